/- Parts of the proof: Printed by gen.py of this repo. Printed by gen.py of this repo. -/
import Derived.Test.YtdndpmlapcbjaaaGreatTB
namespace Go.Proofs.YtdndpmlapcbjaaaGreat
open Go Go.RowKit
set_option linter.unusedVariables false
set_option maxRecDepth 100000

/-! brazier/cas.Open -/
def S12_3 (a2_ : PA) (a4_ : PA) (a5_ : PA) (a6_ : PA) (a7_ : PA) (t25_ : Value) (K : Option PA → Int → Mem → Prop) (X : List PanicEntry → Mem → Prop) (nx2 : Mem → Prop) (rt2 : Code → Mem → Prop) : Mem → Prop :=
 nx2
def S12_4 (t8_ : ByteArray) (t36_ : Bool) (a2_ : PA) (a4_ : PA) (a5_ : PA) (a6_ : PA) (a7_ : PA) (t25_ : Value) (K : Option PA → Int → Mem → Prop) (X : List PanicEntry → Mem → Prop) (nx2 : Mem → Prop) (rt2 : Code → Mem → Prop) : Mem → Prop :=
 ite' t36_ (S12_3 a2_ a4_ a5_ a6_ a7_ t25_ K X nx2 rt2) (ldP a2_ fun t37_39 => call 57 [ptr t37_39, .string t8_] (fun _ _ => False) fun v_ M => ∃ (r41 : Int), v_ = .int .i64 r41 ∧ ( ite' (r41 != 0) (st a4_ (ptr none) <| st a5_ (.int .i64 r41) <| rt2 .ret) (st a7_ (.bool true) <| S12_3 a2_ a4_ a5_ a6_ a7_ t25_ K X nx2 rt2)) M)
def S12_2b (a2_ : PA) (a4_ : PA) (a5_ : PA) (a6_ : PA) (a7_ : PA) (t25_ : Value) (K : Option PA → Int → Mem → Prop) (X : List PanicEntry → Mem → Prop) (y31 : ByteArray) (y32 : Sl) (nx2 : Mem → Prop) (rt2 : Code → Mem → Prop) : Mem → Prop :=
 call 55 [.string y31, .string (⟨#[99, 45]⟩ : ByteArray)] (fun _ _ => False) fun v_ M => ∃ (r33 : Bool), v_ = .bool r33 ∧ ( ite' (!r33) (S12_4 y31 true a2_ a4_ a5_ a6_ a7_ t25_ K X nx2 rt2) (ldP a6_ fun t32_35 => call 56 [ptr t32_35, .string y31, Sl.v y32] (fun _ _ => False) fun v_ M => ∃ (r37 : Bool), v_ = .bool r37 ∧ ( S12_4 y31 r37 a2_ a4_ a5_ a6_ a7_ t25_ K X nx2 rt2) M)) M
def S12_5 (a4_ : PA) (a5_ : PA) (a6_ : PA) (K : Option PA → Int → Mem → Prop) (X : List PanicEntry → Mem → Prop) : Mem → Prop :=
 ldP a6_ fun t49_56 => st a4_ (ptr t49_56) <| st a5_ (.int .i64 0) <| ldP (a4_.1, a4_.2) fun z60 => ldI .i64 (a5_.1, a5_.2) fun z62 => K z60 z62
def S12_2 (a2_ : PA) (a4_ : PA) (a5_ : PA) (a6_ : PA) (a7_ : PA) (t25_ : Value) (K : Option PA → Int → Mem → Prop) (X : List PanicEntry → Mem → Prop) : Mem → Prop :=
 rng t25_ 2 (fun args_ nx rt M => ∃ (y31 : ByteArray) (y32 : Sl), args_ = [.string y31, Sl.v y32] ∧ S12_2b a2_ a4_ a5_ a6_ a7_ t25_ K X y31 y32 nx rt M) (ldB a7_ fun t43_45 => ite' t43_45 (ldP a2_ fun t44_47 => call 58 [ptr t44_47] X fun v_ M => ∃ (r49 : Int), v_ = .int .i64 r49 ∧ ( ite' (r49 != 0) (st a4_ (ptr none) <| st a5_ (.int .i64 r49) <| ldP (a4_.1, a4_.2) fun z52 => ldI .i64 (a5_.1, a5_.2) fun z54 => K z52 z54) (S12_5 a4_ a5_ a6_ K X)) M) (S12_5 a4_ a5_ a6_ K X)) (fun c_ M => (c_ = .ret ∧ (ldP (a4_.1, a4_.2) fun z64 => ldI .i64 (a5_.1, a5_.2) fun z66 => K z64 z66) M))
def S12_1 (t1_ : Int) (a2_ : PA) (a4_ : PA) (a5_ : PA) (t17_ : Bool) (K : Option PA → Int → Mem → Prop) (X : List PanicEntry → Mem → Prop) : Mem → Prop :=
 ite' t17_ (st a4_ (ptr none) <| st a5_ (.int .i64 1) <| ldP (a4_.1, a4_.2) fun z8 => ldI .i64 (a5_.1, a5_.2) fun z10 => K z8 z10) (ldP a2_ fun t18_12 => call 53 [ptr t18_12] X fun v_ M => ∃ (r14 : Bool), v_ = .bool r14 ∧ ( ite' r14 (st a4_ (ptr none) <| st a5_ (.int .i64 5) <| ldP (a4_.1, a4_.2) fun z17 => ldI .i64 (a5_.1, a5_.2) fun z19 => K z17 z19) (ldP a2_ fun t20_21 => new (.cells #[ptr t20_21, .int .i64 t1_] 117 (0, 0)) fun b23 => new (.cells #[ptr none] 28 (0, 0)) fun b24 => st (b24, 0) (ptr (some (b23, 0))) <| new (.cells #[.bool false] 4 (0, 0)) fun b26 => st (b26, 0) (.bool false) <| ldP a2_ fun t24_28 => call 54 [ptr t24_28] X fun v_ M => ∃ (r30 : Value), v_ = r30 ∧ ( S12_2 a2_ a4_ a5_ (b24, 0) (b26, 0) r30 K X) M)) M)
def S12 (t0 : Option PA) (t1 : Int) (K : Option PA → Int → Mem → Prop) (X : List PanicEntry → Mem → Prop) : Mem → Prop :=
 new (.cells #[ptr t0] 26 (0, 0)) fun b1 => new (.cells #[ptr none] 28 (0, 0)) fun b2 => new (.cells #[.int .i64 0] 29 (0, 0)) fun b3 => ite' (decide (t1 < 0)) (S12_1 t1 (b1, 0) (b2, 0) (b3, 0) true K X) (S12_1 t1 (b1, 0) (b2, 0) (b3, 0) (decide (t1 > 64)) K X)
abbrev F12_4 (a2_ : PA) (a4_ : PA) (a5_ : PA) (a6_ : PA) (a7_ : PA) (t25_ : Value) (K : Option PA → Int → Mem → Prop) (X : List PanicEntry → Mem → Prop) (nx2 : Mem → Prop) (rt2 : Code → Mem → Prop) (e : Env) (Mp : Mem) : Prop := ∃ (t8_ : ByteArray) (t36_ : Bool) (M : Mem), e.D = [] ∧ e.v 2 = ptr (some a2_) ∧ e.v 4 = ptr (some a4_) ∧ e.v 5 = ptr (some a5_) ∧ e.v 7 = ptr (some a7_) ∧ e.v 8 = .string t8_ ∧ e.v 36 = .bool t36_ ∧ Pv M [] Mp ∧ S12_4 t8_ t36_ a2_ a4_ a5_ a6_ a7_ t25_ K X nx2 rt2 M
abbrev F12_3 (a2_ : PA) (a4_ : PA) (a5_ : PA) (a6_ : PA) (a7_ : PA) (t25_ : Value) (K : Option PA → Int → Mem → Prop) (X : List PanicEntry → Mem → Prop) (nx2 : Mem → Prop) (rt2 : Code → Mem → Prop) (e : Env) (Mp : Mem) : Prop := ∃ (M : Mem), e.D = [] ∧ Pv M [] Mp ∧ S12_3  a2_ a4_ a5_ a6_ a7_ t25_ K X nx2 rt2 M
abbrev F12_5 (K : Option PA → Int → Mem → Prop) (X : List PanicEntry → Mem → Prop) (e : Env) (Mp : Mem) : Prop := ∃ (a4_ : PA) (a5_ : PA) (a6_ : PA) (M : Mem), e.D = [] ∧ e.v 4 = ptr (some a4_) ∧ e.v 5 = ptr (some a5_) ∧ e.v 6 = ptr (some a6_) ∧ Pv M [] Mp ∧ S12_5 a4_ a5_ a6_ K X M
abbrev F12_2 (K : Option PA → Int → Mem → Prop) (X : List PanicEntry → Mem → Prop) (e : Env) (Mp : Mem) : Prop := ∃ (a2_ : PA) (a4_ : PA) (a5_ : PA) (a6_ : PA) (a7_ : PA) (t25_ : Value) (M : Mem), e.D = [] ∧ e.v 2 = ptr (some a2_) ∧ e.v 4 = ptr (some a4_) ∧ e.v 5 = ptr (some a5_) ∧ e.v 6 = ptr (some a6_) ∧ e.v 7 = ptr (some a7_) ∧ e.v 25 = t25_ ∧ Pv M [] Mp ∧ S12_2 a2_ a4_ a5_ a6_ a7_ t25_ K X M
abbrev F12_1 (K : Option PA → Int → Mem → Prop) (X : List PanicEntry → Mem → Prop) (e : Env) (Mp : Mem) : Prop := ∃ (t1_ : Int) (a2_ : PA) (a4_ : PA) (a5_ : PA) (t17_ : Bool) (M : Mem), e.D = [] ∧ e.v 1 = .int .i64 t1_ ∧ e.v 2 = ptr (some a2_) ∧ e.v 4 = ptr (some a4_) ∧ e.v 5 = ptr (some a5_) ∧ e.v 17 = .bool t17_ ∧ Pv M [] Mp ∧ S12_1 t1_ a2_ a4_ a5_ t17_ K X M
theorem br12 {t0 : Option PA} {t1 : Int} {K : Option PA → Int → Mem → Prop} {X : List PanicEntry → Mem → Prop} {M : Mem} (H : S12 t0 t1 K X M) :
  Spec Tryz.prog 12 #[ptr t0, .int .i64 t1] M (fun v_ M => ∃ (r0 : Option PA) (r1 : Int), v_ = .tuple #[ptr r0, .int .i64 r1] ∧ K r0 r1 M) X := by
 refine spec_of_J (args := [ptr t0, .int .i64 t1]) Tryz.func12 rfl Tryz.ntmps12 (Nat.le_of_ble_eq_true rfl) ?_
 have hD : (⟨fun i => ([ptr t0, .int .i64 t1] : List Value).getD i undef, []⟩ : Env).D = [] := rfl
 have hP := Pv.nil M
 have hX := @kx_of Tryz.prog Tryz.f12 (fun v_ M => ∃ (r0 : Option PA) (r1 : Int), v_ = .tuple #[ptr r0, .int .i64 r1] ∧ K r0 r1 M) X
 unfold S12 at H
 refine J_seq ?_
 refine J_region (by decide) ?_
 refine JO_box (v := ptr t0) rfl ?_
 intro b1 hb
 replace H := H b1 (hP.out hb).1
 replace hP := hP.new hb (.cells #[ptr t0] 26 (0, 0))
 refine JO_alloc (cs := [ptr none]) zc_28 ?_
 intro b2 hb
 replace H := H b2 (hP.out hb).1
 replace hP := hP.new hb (.cells #[ptr none] 28 (0, 0))
 refine JO_alloc (cs := [.int .i64 0]) zc_29 ?_
 intro b3 hb
 replace H := H b3 (hP.out hb).1
 replace hP := hP.new hb (.cells #[.int .i64 0] 29 (0, 0))
 refine JO_nil ?_
 refine J_seq ?_
 refine J_seq ?_
 refine J_region (by decide) ?_
 refine JO_move (v := .int .i64 t1) rfl ?_
 refine JO_iop (op := .lss) (k := .i64) (a := t1) (b := 0) rfl rfl trivial ?_
 refine JO_move (v := .bool (decide (t1 < 0))) rfl ?_
 refine JO_cut 3 (F12_1 K X) ?_ ?_
 ·
  obtain ⟨H1, H2⟩ := H
  obtain hc_ | hc_ := ff_or_tt (decide (t1 < 0))
  ·
   replace H := H2 hc_
   clear H1 H2
   have hg4 := (congrArg Value.bool hc_ : Value.bool (decide (t1 < 0)) = Value.bool false)
   refine JO_on (s := 14) hg4 ?_
   refine JO_move (v := .int .i64 t1) rfl ?_
   refine JO_on (s := 14) hg4 ?_
   refine JO_iop (op := .gtr) (k := .i64) (a := t1) (b := 64) rfl rfl trivial ?_
   refine JO_pick (b := false) (v := .bool (decide (t1 > 64))) hg4 rfl ?_
   refine JO_nil ?_
   exact (show F12_1 K X _ _ from ⟨t1, (b1, 0), (b2, 0), (b3, 0), decide (t1 > 64), _, hD, rfl, rfl, rfl, rfl, rfl, hP, H⟩)
  ·
   replace H := H1 hc_
   clear H1 H2
   have hg5 := (congrArg Value.bool hc_ : Value.bool (decide (t1 < 0)) = Value.bool true)
   refine JO_off (s := 14) (c := true) hg5 (by decide) ?_
   refine JO_off (s := 14) (c := true) hg5 (by decide) ?_
   refine JO_pick (b := true) (v := .bool true) hg5 rfl ?_
   refine JO_nil ?_
   exact (show F12_1 K X _ _ from ⟨t1, (b1, 0), (b2, 0), (b3, 0), true, _, hD, rfl, rfl, rfl, rfl, rfl, hP, H⟩)
 ·
  rintro e Mp ⟨t1_, a2_, a4_, a5_, t17_, M, hD, h1, h2, h4, h5, h17, hP, H⟩
  unfold S12_1 at H
  refine JO_nil ?_
  refine J_cond (t := t17_) h17 (fun hc_ => ?_) (fun hc_ => ?_)
  ·
   replace H := H.1 hc_
   clear hc_
   refine J_seq ?_
   refine J_region (by decide) ?_
   obtain ⟨g6, H⟩ := H
   refine JO_store (p := a4_) (v := ptr none) sz_28 h4 rfl rfl (hP.wr g6) ?_
   replace hP := hP.sto g6 (ptr none)
   obtain ⟨g7, H⟩ := H
   refine JO_store (p := a5_) (v := .int .i64 1) sz_29 h5 rfl rfl (hP.wr g7) ?_
   replace hP := hP.sto g7 (.int .i64 1)
   refine JO_nil ?_
   obtain ⟨z8, g9, H⟩ := H
   obtain ⟨z10, g11, H⟩ := H
   exact J_ret (kret (pan := X)  hD (fun _ _ hb => hP.sub hb) (resOk (rs := [.cell 4 28, .cell 5 29]) (vs := [ptr z8, .int .i64 z10]) rfl ⟨item_cell (p := a4_) na_28 (by exact h4) (hP.cel g9), item_cell (p := a5_) na_29 (by exact h5) (hP.cel g11), trivial⟩) ⟨z8, z10, rfl, H⟩)
  ·
   replace H := H.2 hc_
   clear hc_
   refine J_skip ?_
   refine J_seq ?_
   refine J_seq ?_
   refine J_region (by decide) ?_
   obtain ⟨t18_12, g13, H⟩ := H
   refine JO_load (p := a2_) (v := ptr t18_12) na_26 h2 (hP.cel g13) ?_
   refine JO_call Tryz.call53 (vs := [ptr t18_12]) (mc rfl mn) ((hP.spec H).mono ?_ (fun ch Mp h => hX hD h))
   rintro v Mp ⟨M, hP, r14, rfl, H⟩
   refine JO_nil ?_
   refine J_cond (t := r14) rfl (fun hc_ => ?_) (fun hc_ => ?_)
   ·
    replace H := H.1 hc_
    clear hc_
    refine J_seq ?_
    refine J_region (by decide) ?_
    obtain ⟨g15, H⟩ := H
    refine JO_store (p := a4_) (v := ptr none) sz_28 h4 rfl rfl (hP.wr g15) ?_
    replace hP := hP.sto g15 (ptr none)
    obtain ⟨g16, H⟩ := H
    refine JO_store (p := a5_) (v := .int .i64 5) sz_29 h5 rfl rfl (hP.wr g16) ?_
    replace hP := hP.sto g16 (.int .i64 5)
    refine JO_nil ?_
    obtain ⟨z17, g18, H⟩ := H
    obtain ⟨z19, g20, H⟩ := H
    exact J_ret (kret (pan := X)  hD (fun _ _ hb => hP.sub hb) (resOk (rs := [.cell 4 28, .cell 5 29]) (vs := [ptr z17, .int .i64 z19]) rfl ⟨item_cell (p := a4_) na_28 (by exact h4) (hP.cel g18), item_cell (p := a5_) na_29 (by exact h5) (hP.cel g20), trivial⟩) ⟨z17, z19, rfl, H⟩)
   ·
    replace H := H.2 hc_
    clear hc_
    refine J_skip ?_
    refine J_seq ?_
    refine J_region (by decide) ?_
    obtain ⟨t20_21, g22, H⟩ := H
    refine JO_load (p := a2_) (v := ptr t20_21) na_26 h2 (hP.cel g22) ?_
    refine JO_move (v := .int .i64 t1_) h1 ?_
    refine JO_bld (vs := [(0, ptr t20_21), (1, .int .i64 t1_)]) (cs := [ptr t20_21, .int .i64 t1_]) pl_117 zc_117 (mpc rfl (mpc rfl mpn)) rfl ?_
    refine JO_box (v := .agg #[ptr t20_21, .int .i64 t1_]) rfl ?_
    intro b23 hb
    replace H := H b23 (hP.out hb).1
    replace hP := hP.new hb (.cells #[ptr t20_21, .int .i64 t1_] 117 (0, 0))
    refine JO_alloc (cs := [ptr none]) zc_28 ?_
    intro b24 hb
    replace H := H b24 (hP.out hb).1
    replace hP := hP.new hb (.cells #[ptr none] 28 (0, 0))
    obtain ⟨g25, H⟩ := H
    refine JO_store (p := (b24, 0)) (v := ptr (some (b23, 0))) sz_28 rfl rfl rfl (hP.wr g25) ?_
    replace hP := hP.sto g25 (ptr (some (b23, 0)))
    refine JO_nil ?_
    refine J_seq ?_
    refine J_region (by decide) ?_
    refine JO_alloc (cs := [.bool false]) zc_4 ?_
    intro b26 hb
    replace H := H b26 (hP.out hb).1
    replace hP := hP.new hb (.cells #[.bool false] 4 (0, 0))
    obtain ⟨g27, H⟩ := H
    refine JO_store (p := (b26, 0)) (v := .bool false) sz_4 rfl rfl rfl (hP.wr g27) ?_
    replace hP := hP.sto g27 (.bool false)
    refine JO_nil ?_
    refine J_seq ?_
    refine J_seq ?_
    refine J_region (by decide) ?_
    obtain ⟨t24_28, g29, H⟩ := H
    refine JO_load (p := a2_) (v := ptr t24_28) na_26 h2 (hP.cel g29) ?_
    refine JO_call Tryz.call54 (vs := [ptr t24_28]) (mc rfl mn) ((hP.spec H).mono ?_ (fun ch Mp h => hX hD h))
    rintro r30 Mp ⟨M, hP, _, rfl, H⟩
    refine JO_nil ?_
    refine J_block ?_
    refine J_of (F12_2 K X) (show F12_2 K X _ _ from ⟨a2_, a4_, a5_, (b24, 0), (b26, 0), r30, _, hD, h2, h4, h5, rfl, rfl, rfl, hP, H⟩) ?_
    rintro e Mp ⟨a2_, a4_, a5_, a6_, a7_, t25_, M, hD, h2, h4, h5, h6, h7, h25, hP, H⟩
    unfold S12_2 at H
    refine J_forget (fun _ _ hb => hP.sub hb) ?_
    obtain ⟨f_, caps_, hf_, he_, H⟩ := H
    refine J_range (gf := f_) (caps := caps_) (h25.trans hf_) he_ (by decide) ?_
    intro y_ l_ oR_ oD_ hM_ law_
    refine (H y_ l_ oR_ oD_ hM_ ?_).mono ?_ (fun _ _ f => f)
    ·
     rintro args_ κ_ M hlen_ hl_ ⟨y31, y32, rfl, hb_⟩ ro_
     refine law_ _ κ_ M hlen_ hl_ ?_ ro_
     obtain ⟨nx2, rt2, hn_2, hr_2, H⟩ : ∃ (nx : Mem → Prop) (rt : Code → Mem → Prop), (∀ M, M l_ = none → nx M → κ_ (.bool true) (M.upd l_ oR_)) ∧ (∀ c M, M l_ = none → rt c M → κ_ (.bool false) (M.upd l_ (oD_ c))) ∧ S12_2b a2_ a4_ a5_ a6_ a7_ t25_ K X y31 y32 nx rt (M.del l_) := ⟨_, _, fun _ h0 h => h h0, fun _ _ h0 h => h h0, hb_⟩
     clear hb_ hlen_ hl_ hP
     generalize M.del l_ = M at H ⊢
     have hP := Pv.nil M
     have hD : ([] : List Deferred) = [] := rfl
     unfold S12_2b at H
     refine J_seq ?_
     refine J_region (by decide) ?_
     refine JO_assign (v := .string y31) rfl ?_
     refine JO_nil ?_
     refine J_region (by decide) ?_
     refine JO_assign (v := Sl.v y32) rfl ?_
     refine JO_nil ?_
     refine kd_nx ?_
     refine J_blockF (F12_3 a2_ a4_ a5_ a6_ a7_ t25_ K X nx2 rt2) ?_ ?_
     ·
      refine J_seq ?_
      refine J_seq ?_
      refine J_region (by decide) ?_
      refine JO_move (v := .string y31) rfl ?_
      refine JO_call Tryz.call55 (vs := [.string y31, .string (⟨#[99, 45]⟩ : ByteArray)]) (mc rfl (mc rfl mn)) ((hP.spec H).mono ?_ (fun _ _ ⟨_, _, f⟩ => f.elim))
      rintro v Mp ⟨M, hP, r33, rfl, H⟩
      refine JO_not (b := r33) rfl ?_
      refine JO_move (v := .bool (!r33)) rfl ?_
      refine JO_cut 5 (F12_4 a2_ a4_ a5_ a6_ a7_ t25_ K X nx2 rt2) ?_ ?_
      ·
       obtain ⟨H1, H2⟩ := H
       obtain hc_ | hc_ := ff_or_tt (!r33)
       ·
        replace H := H2 hc_
        clear H1 H2
        have hg34 := (congrArg Value.bool hc_ : Value.bool (!r33) = Value.bool false)
        refine JO_on (s := 31) hg34 ?_
        obtain ⟨t32_35, g36, H⟩ := H
        refine JO_load (p := a6_) (v := ptr t32_35) na_28 h6 (hP.cel g36) ?_
        refine JO_on (s := 31) hg34 ?_
        refine JO_move (v := .string y31) rfl ?_
        refine JO_on (s := 31) hg34 ?_
        refine JO_move (v := Sl.v y32) rfl ?_
        refine JO_on (s := 31) hg34 ?_
        refine JO_call Tryz.call56 (vs := [ptr t32_35, .string y31, Sl.v y32]) (mc rfl (mc rfl (mc rfl mn))) ((hP.spec H).mono ?_ (fun _ _ ⟨_, _, f⟩ => f.elim))
        rintro v Mp ⟨M, hP, r37, rfl, H⟩
        refine JO_pick (b := false) (v := .bool r37) hg34 rfl ?_
        refine JO_nil ?_
        exact (show F12_4 a2_ a4_ a5_ a6_ a7_ t25_ K X nx2 rt2 _ _ from ⟨y31, r37, _, hD, h2, h4, h5, h7, rfl, rfl, hP, H⟩)
       ·
        replace H := H1 hc_
        clear H1 H2
        have hg38 := (congrArg Value.bool hc_ : Value.bool (!r33) = Value.bool true)
        refine JO_off (s := 31) (c := true) hg38 (by decide) ?_
        refine JO_off (s := 31) (c := true) hg38 (by decide) ?_
        refine JO_off (s := 31) (c := true) hg38 (by decide) ?_
        refine JO_off (s := 31) (c := true) hg38 (by decide) ?_
        refine JO_pick (b := true) (v := .bool true) hg38 rfl ?_
        refine JO_nil ?_
        exact (show F12_4 a2_ a4_ a5_ a6_ a7_ t25_ K X nx2 rt2 _ _ from ⟨y31, true, _, hD, h2, h4, h5, h7, rfl, rfl, hP, H⟩)
      ·
       rintro e Mp ⟨t8_, t36_, M, hD, h2, h4, h5, h7, h8, h36, hP, H⟩
       unfold S12_4 at H
       refine JO_nil ?_
       refine J_cond (t := t36_) h36 (fun hc_ => ?_) (fun hc_ => ?_)
       ·
        replace H := H.1 hc_
        clear hc_
        refine J_exit ?_
        exact (show F12_3 a2_ a4_ a5_ a6_ a7_ t25_ K X nx2 rt2 _ _ from ⟨_, hD, hP, H⟩)
       ·
        replace H := H.2 hc_
        clear hc_
        refine J_skip ?_
        refine J_seq ?_
        refine J_seq ?_
        refine J_region (by decide) ?_
        obtain ⟨t37_39, g40, H⟩ := H
        refine JO_load (p := a2_) (v := ptr t37_39) na_26 h2 (hP.cel g40) ?_
        refine JO_move (v := .string t8_) h8 ?_
        refine JO_call Tryz.call57 (vs := [ptr t37_39, .string t8_]) (mc rfl (mc rfl mn)) ((hP.spec H).mono ?_ (fun _ _ ⟨_, _, f⟩ => f.elim))
        rintro v Mp ⟨M, hP, r41, rfl, H⟩
        refine JO_assign (v := .int .i64 r41) rfl ?_
        refine JO_nil ?_
        refine J_seq ?_
        refine J_region (by decide) ?_
        refine JO_move (v := .int .i64 r41) rfl ?_
        refine JO_iop (op := .neq) (k := .i64) (a := r41) (b := 0) rfl rfl trivial ?_
        refine JO_nil ?_
        refine J_cond (t := r41 != 0) rfl (fun hc_ => ?_) (fun hc_ => ?_)
        ·
         replace H := H.1 hc_
         clear hc_
         refine J_seq ?_
         refine J_region (by decide) ?_
         refine JO_move (v := .int .i64 r41) rfl ?_
         obtain ⟨g42, H⟩ := H
         refine JO_store (p := a4_) (v := ptr none) sz_28 h4 rfl rfl (hP.wr g42) ?_
         replace hP := hP.sto g42 (ptr none)
         obtain ⟨g43, H⟩ := H
         refine JO_store (p := a5_) (v := .int .i64 r41) sz_29 h5 rfl rfl (hP.wr g43) ?_
         replace hP := hP.sto g43 (.int .i64 r41)
         refine JO_nil ?_
         exact J_ret (rb_ret (oR := oR_) (oD := oD_) (e := ⟨fun _ => undef, []⟩) fun hl_ => ⟨_, fun _ _ hb => hP.sub hb, hr_2 _ _ (sub_none (b := l_) (fun _ _ hb => hP.sub hb) hl_) H⟩)
        ·
         replace H := H.2 hc_
         clear hc_
         refine J_skip ?_
         refine J_region (by decide) ?_
         obtain ⟨g44, H⟩ := H
         refine JO_store (p := a7_) (v := .bool true) sz_4 h7 rfl rfl (hP.wr g44) ?_
         replace hP := hP.sto g44 (.bool true)
         refine JO_nil ?_
         exact (show F12_3 a2_ a4_ a5_ a6_ a7_ t25_ K X nx2 rt2 _ _ from ⟨_, hD, hP, H⟩)
     ·
      rintro e Mp ⟨M, hD, hP, H⟩
      unfold S12_3 at H
      exact rb_nx (oR := oR_) (oD := oD_) (e := ⟨fun _ => undef, []⟩) fun hl_ => ⟨_, fun _ _ hb => hP.sub hb, hn_2 _ (sub_none (b := l_) (fun _ _ hb => hP.sub hb) hl_) H⟩
    ·
     rintro _ M (⟨hl_, H⟩ | ⟨c_, hl_, H⟩)
     ·
      refine .inl ⟨hl_, ?_⟩
      clear hl_ hP
      generalize M.del l_ = M at H ⊢
      have hP := Pv.nil M
      refine J_seqF (F12_5 K X) ?_ ?_
      ·
       refine J_seq ?_
       refine J_region (by decide) ?_
       obtain ⟨t43_45, g46, H⟩ := H
       refine JO_load (p := a7_) (v := .bool t43_45) na_4 h7 (hP.cel g46) ?_
       refine JO_nil ?_
       refine J_cond (t := t43_45) rfl (fun hc_ => ?_) (fun hc_ => ?_)
       ·
        replace H := H.1 hc_
        clear hc_
        refine J_seq ?_
        refine J_region (by decide) ?_
        obtain ⟨t44_47, g48, H⟩ := H
        refine JO_load (p := a2_) (v := ptr t44_47) na_26 h2 (hP.cel g48) ?_
        refine JO_call Tryz.call58 (vs := [ptr t44_47]) (mc rfl mn) ((hP.spec H).mono ?_ (fun ch Mp h => hX hD h))
        rintro v Mp ⟨M, hP, r49, rfl, H⟩
        refine JO_assign (v := .int .i64 r49) rfl ?_
        refine JO_nil ?_
        refine J_seq ?_
        refine J_region (by decide) ?_
        refine JO_move (v := .int .i64 r49) rfl ?_
        refine JO_iop (op := .neq) (k := .i64) (a := r49) (b := 0) rfl rfl trivial ?_
        refine JO_nil ?_
        refine J_cond (t := r49 != 0) rfl (fun hc_ => ?_) (fun hc_ => ?_)
        ·
         replace H := H.1 hc_
         clear hc_
         refine J_seq ?_
         refine J_region (by decide) ?_
         refine JO_move (v := .int .i64 r49) rfl ?_
         obtain ⟨g50, H⟩ := H
         refine JO_store (p := a4_) (v := ptr none) sz_28 h4 rfl rfl (hP.wr g50) ?_
         replace hP := hP.sto g50 (ptr none)
         obtain ⟨g51, H⟩ := H
         refine JO_store (p := a5_) (v := .int .i64 r49) sz_29 h5 rfl rfl (hP.wr g51) ?_
         replace hP := hP.sto g51 (.int .i64 r49)
         refine JO_nil ?_
         obtain ⟨z52, g53, H⟩ := H
         obtain ⟨z54, g55, H⟩ := H
         exact J_ret (kret (pan := X)  hD (fun _ _ hb => hP.sub hb) (resOk (rs := [.cell 4 28, .cell 5 29]) (vs := [ptr z52, .int .i64 z54]) rfl ⟨item_cell (p := a4_) na_28 (by exact h4) (hP.cel g53), item_cell (p := a5_) na_29 (by exact h5) (hP.cel g55), trivial⟩) ⟨z52, z54, rfl, H⟩)
        ·
         replace H := H.2 hc_
         clear hc_
         refine J_skip ?_
         exact (show F12_5 K X _ _ from ⟨a4_, a5_, a6_, _, hD, h4, h5, h6, hP, H⟩)
       ·
        replace H := H.2 hc_
        clear hc_
        refine J_skip ?_
        exact (show F12_5 K X _ _ from ⟨a4_, a5_, a6_, _, hD, h4, h5, h6, hP, H⟩)
      ·
       rintro e Mp ⟨a4_, a5_, a6_, M, hD, h4, h5, h6, hP, H⟩
       unfold S12_5 at H
       refine J_seq ?_
       refine J_region (by decide) ?_
       obtain ⟨t49_56, g57, H⟩ := H
       refine JO_load (p := a6_) (v := ptr t49_56) na_28 h6 (hP.cel g57) ?_
       obtain ⟨g58, H⟩ := H
       refine JO_store (p := a4_) (v := ptr t49_56) sz_28 h4 rfl rfl (hP.wr g58) ?_
       replace hP := hP.sto g58 (ptr t49_56)
       obtain ⟨g59, H⟩ := H
       refine JO_store (p := a5_) (v := .int .i64 0) sz_29 h5 rfl rfl (hP.wr g59) ?_
       replace hP := hP.sto g59 (.int .i64 0)
       refine JO_nil ?_
       obtain ⟨z60, g61, H⟩ := H
       obtain ⟨z62, g63, H⟩ := H
       exact J_ret (kret (pan := X)  hD (fun _ _ hb => hP.sub hb) (resOk (rs := [.cell 4 28, .cell 5 29]) (vs := [ptr z60, .int .i64 z62]) rfl ⟨item_cell (p := a4_) na_28 (by exact h4) (hP.cel g61), item_cell (p := a5_) na_29 (by exact h5) (hP.cel g63), trivial⟩) ⟨z60, z62, rfl, H⟩)
     ·
      obtain ⟨rfl, H⟩ := H
      refine .inr ⟨_, hl_, ?_⟩
      clear hl_ hP
      generalize M.del l_ = M at H ⊢
      have hP := Pv.nil M
      obtain ⟨z64, g65, H⟩ := H
      obtain ⟨z66, g67, H⟩ := H
      exact J_ret (kret (pan := X)  hD (fun _ _ hb => hP.sub hb) (resOk (rs := [.cell 4 28, .cell 5 29]) (vs := [ptr z64, .int .i64 z66]) rfl ⟨item_cell (p := a4_) na_28 (by exact h4) (hP.cel g65), item_cell (p := a5_) na_29 (by exact h5) (hP.cel g67), trivial⟩) ⟨z64, z66, rfl, H⟩)

/-! (*brazier/disk.Disk).Read -/
def S16 (t0 : Option PA) (t1 : ByteArray) (K : Sl → Int → Mem → Prop) (X : List PanicEntry → Mem → Prop) : Mem → Prop :=
 call 63 [ptr t0, .string t1] X fun v_ M => ∃ (r1_0 : Option PA) (r1_1 : Bool), v_ = .tuple #[ptr r1_0, .bool r1_1] ∧ ( ite' (!r1_1) (K (⟨none, 0, 0⟩ : Sl) 3) (nn r1_0 fun a2 => ldL a2 fun t19_4 => call 64 [Sl.v t19_4] X fun v_ M => ∃ (r6 : Sl), v_ = Sl.v r6 ∧ ( K r6 0) M)) M
theorem br16 {t0 : Option PA} {t1 : ByteArray} {K : Sl → Int → Mem → Prop} {X : List PanicEntry → Mem → Prop} {M : Mem} (H : S16 t0 t1 K X M) :
  Spec Tryz.prog 16 #[ptr t0, .string t1] M (fun v_ M => ∃ (r0 : Sl) (r1 : Int), v_ = .tuple #[Sl.v r0, .int .i64 r1] ∧ K r0 r1 M) X := by
 refine spec_of_J (args := [ptr t0, .string t1]) Tryz.func16 rfl Tryz.ntmps16 (Nat.le_of_ble_eq_true rfl) ?_
 have hD : (⟨fun i => ([ptr t0, .string t1] : List Value).getD i undef, []⟩ : Env).D = [] := rfl
 have hP := Pv.nil M
 have hX := @kx_of Tryz.prog Tryz.f16 (fun v_ M => ∃ (r0 : Sl) (r1 : Int), v_ = .tuple #[Sl.v r0, .int .i64 r1] ∧ K r0 r1 M) X
 unfold S16 at H
 refine J_seq ?_
 refine J_region (by decide) ?_
 refine JO_assign (v := Sl.v (⟨none, 0, 0⟩ : Sl)) rfl ?_
 refine JO_assign (v := .int .i64 0) rfl ?_
 refine JO_nil ?_
 refine J_seq ?_
 refine J_region (by decide) ?_
 refine JO_move (v := ptr t0) rfl ?_
 refine JO_move (v := .string t1) rfl ?_
 refine JO_call Tryz.call63 (vs := [ptr t0, .string t1]) (mc rfl (mc rfl mn)) ((hP.spec H).mono ?_ (fun ch Mp h => hX hD h))
 rintro v Mp ⟨M, hP, r1_0, r1_1, rfl, H⟩
 refine JO_move (v := .tuple #[ptr r1_0, .bool r1_1]) rfl ?_
 refine JO_extract (vs := #[ptr r1_0, .bool r1_1]) (v := ptr r1_0) rfl rfl ?_
 refine JO_extract (vs := #[ptr r1_0, .bool r1_1]) (v := .bool r1_1) rfl rfl ?_
 refine JO_assign (v := ptr r1_0) rfl ?_
 refine JO_assign (v := .bool r1_1) rfl ?_
 refine JO_nil ?_
 refine J_seq ?_
 refine J_seq ?_
 refine J_region (by decide) ?_
 refine JO_move (v := .bool r1_1) rfl ?_
 refine JO_not (b := r1_1) rfl ?_
 refine JO_nil ?_
 refine J_cond (t := !r1_1) rfl (fun hc_ => ?_) (fun hc_ => ?_)
 ·
  replace H := H.1 hc_
  clear hc_
  refine J_seq ?_
  refine J_region (by decide) ?_
  refine JO_assign (v := Sl.v (⟨none, 0, 0⟩ : Sl)) rfl ?_
  refine JO_assign (v := .int .i64 3) rfl ?_
  refine JO_nil ?_
  exact J_ret (kret (pan := X)  hD (fun _ _ hb => hP.sub hb) (resOk (rs := [.tmp 4, .tmp 5]) (vs := [Sl.v (⟨none, 0, 0⟩ : Sl), .int .i64 3]) rfl ⟨item_tmp rfl, item_tmp rfl, trivial⟩) ⟨(⟨none, 0, 0⟩ : Sl), 3, rfl, H⟩)
 ·
  replace H := H.2 hc_
  clear hc_
  refine J_skip ?_
  refine J_seq ?_
  refine J_region (by decide) ?_
  refine JO_move (v := ptr r1_0) rfl ?_
  obtain ⟨a2, g3, H⟩ := H
  refine JO_nilCheck (p := a2) (tr1 (rfl : _ = ptr r1_0) (congrArg ptr g3)) ?_
  refine JO_fieldAddr (p := a2) fo_135_0 rfl ?_
  obtain ⟨t19_4, g5, H⟩ := H
  refine JO_load (p := a2) (v := Sl.v t19_4) na_32 rfl (hP.cel g5) ?_
  refine JO_call Tryz.call64 (vs := [Sl.v t19_4]) (mc rfl mn) ((hP.spec H).mono ?_ (fun ch Mp h => hX hD h))
  rintro v Mp ⟨M, hP, r6, rfl, H⟩
  refine JO_assign (v := Sl.v r6) rfl ?_
  refine JO_assign (v := .int .i64 0) rfl ?_
  refine JO_nil ?_
  exact J_ret (kret (pan := X)  hD (fun _ _ hb => hP.sub hb) (resOk (rs := [.tmp 4, .tmp 5]) (vs := [Sl.v r6, .int .i64 0]) rfl ⟨item_tmp rfl, item_tmp rfl, trivial⟩) ⟨r6, 0, rfl, H⟩)

/-! (*brazier/cas.Store).Drop -/
/-! strings.HasPrefix -/
def S55 (t0 : ByteArray) (t1 : ByteArray) (K : Bool → Mem → Prop) (X : List PanicEntry → Mem → Prop) : Mem → Prop :=
 call 118 [.string t0, .string t1] X fun v_ M => ∃ (r1 : Bool), v_ = .bool r1 ∧ ( K r1) M
theorem br55 {t0 : ByteArray} {t1 : ByteArray} {K : Bool → Mem → Prop} {X : List PanicEntry → Mem → Prop} {M : Mem} (H : S55 t0 t1 K X M) :
  Spec Tryz.prog 55 #[.string t0, .string t1] M (fun v_ M => ∃ (r0 : Bool), v_ = .bool r0 ∧ K r0 M) X := by
 refine spec_of_J (args := [.string t0, .string t1]) Tryz.func55 rfl Tryz.ntmps55 (Nat.le_of_ble_eq_true rfl) ?_
 have hD : (⟨fun i => ([.string t0, .string t1] : List Value).getD i undef, []⟩ : Env).D = [] := rfl
 have hP := Pv.nil M
 have hX := @kx_of Tryz.prog Tryz.f55 (fun v_ M => ∃ (r0 : Bool), v_ = .bool r0 ∧ K r0 M) X
 unfold S55 at H
 refine J_seq ?_
 refine J_region (by decide) ?_
 refine JO_assign (v := .bool false) rfl ?_
 refine JO_nil ?_
 refine J_seq ?_
 refine J_region (by decide) ?_
 refine JO_move (v := .string t0) rfl ?_
 refine JO_move (v := .string t1) rfl ?_
 refine JO_call Tryz.call118 (vs := [.string t0, .string t1]) (mc rfl (mc rfl mn)) ((hP.spec H).mono ?_ (fun ch Mp h => hX hD h))
 rintro v Mp ⟨M, hP, r1, rfl, H⟩
 refine JO_assign (v := .bool r1) rfl ?_
 refine JO_nil ?_
 exact J_ret (kret (pan := X)  hD (fun _ _ hb => hP.sub hb) (resOk (rs := [.tmp 4]) (vs := [.bool r1]) rfl ⟨item_tmp rfl, trivial⟩) ⟨r1, rfl, H⟩)

/-! brazier/cas.Entry -/
def S59 (t0 : Sl) (t1 : Sl) (K : Sl → Int → Mem → Prop) (X : List PanicEntry → Mem → Prop) : Mem → Prop :=
 call 123 [Sl.v t0] X fun v_ M => ∃ (r1_0 : Sl) (r1_1 : Int), v_ = .tuple #[Sl.v r1_0, .int .i64 r1_1] ∧ ( ite' (r1_1 != 0) (K (⟨none, 0, 0⟩ : Sl) r1_1) (call 123 [Sl.v t1] X fun v_ M => ∃ (r2_0 : Sl) (r2_1 : Int), v_ = .tuple #[Sl.v r2_0, .int .i64 r2_1] ∧ ( ite' (r2_1 != 0) (K (⟨none, 0, 0⟩ : Sl) r2_1) (new (.cells #[Sl.v r1_0, Sl.v r2_0] 32 (0, 0)) fun b3 => call 124 [Sl.v (⟨some (b3, 0), 2, 2⟩ : Sl)] X fun v_ M => ∃ (r4 : Sl), v_ = Sl.v r4 ∧ ( K r4 0) M)) M)) M
theorem br59 {t0 : Sl} {t1 : Sl} {K : Sl → Int → Mem → Prop} {X : List PanicEntry → Mem → Prop} {M : Mem} (H : S59 t0 t1 K X M) :
  Spec Tryz.prog 59 #[Sl.v t0, Sl.v t1] M (fun v_ M => ∃ (r0 : Sl) (r1 : Int), v_ = .tuple #[Sl.v r0, .int .i64 r1] ∧ K r0 r1 M) X := by
 refine spec_of_J (args := [Sl.v t0, Sl.v t1]) Tryz.func59 rfl Tryz.ntmps59 (Nat.le_of_ble_eq_true rfl) ?_
 have hD : (⟨fun i => ([Sl.v t0, Sl.v t1] : List Value).getD i undef, []⟩ : Env).D = [] := rfl
 have hP := Pv.nil M
 have hX := @kx_of Tryz.prog Tryz.f59 (fun v_ M => ∃ (r0 : Sl) (r1 : Int), v_ = .tuple #[Sl.v r0, .int .i64 r1] ∧ K r0 r1 M) X
 unfold S59 at H
 refine J_seq ?_
 refine J_region (by decide) ?_
 refine JO_assign (v := Sl.v (⟨none, 0, 0⟩ : Sl)) rfl ?_
 refine JO_assign (v := .int .i64 0) rfl ?_
 refine JO_nil ?_
 refine J_seq ?_
 refine J_region (by decide) ?_
 refine JO_move (v := Sl.v t0) rfl ?_
 refine JO_call Tryz.call123 (vs := [Sl.v t0]) (mc rfl mn) ((hP.spec H).mono ?_ (fun ch Mp h => hX hD h))
 rintro v Mp ⟨M, hP, r1_0, r1_1, rfl, H⟩
 refine JO_move (v := .tuple #[Sl.v r1_0, .int .i64 r1_1]) rfl ?_
 refine JO_extract (vs := #[Sl.v r1_0, .int .i64 r1_1]) (v := Sl.v r1_0) rfl rfl ?_
 refine JO_extract (vs := #[Sl.v r1_0, .int .i64 r1_1]) (v := .int .i64 r1_1) rfl rfl ?_
 refine JO_assign (v := Sl.v r1_0) rfl ?_
 refine JO_assign (v := .int .i64 r1_1) rfl ?_
 refine JO_nil ?_
 refine J_seq ?_
 refine J_seq ?_
 refine J_region (by decide) ?_
 refine JO_move (v := .int .i64 r1_1) rfl ?_
 refine JO_iop (op := .neq) (k := .i64) (a := r1_1) (b := 0) rfl rfl trivial ?_
 refine JO_nil ?_
 refine J_cond (t := r1_1 != 0) rfl (fun hc_ => ?_) (fun hc_ => ?_)
 ·
  replace H := H.1 hc_
  clear hc_
  refine J_seq ?_
  refine J_region (by decide) ?_
  refine JO_move (v := .int .i64 r1_1) rfl ?_
  refine JO_assign (v := Sl.v (⟨none, 0, 0⟩ : Sl)) rfl ?_
  refine JO_assign (v := .int .i64 r1_1) rfl ?_
  refine JO_nil ?_
  exact J_ret (kret (pan := X)  hD (fun _ _ hb => hP.sub hb) (resOk (rs := [.tmp 4, .tmp 5]) (vs := [Sl.v (⟨none, 0, 0⟩ : Sl), .int .i64 r1_1]) rfl ⟨item_tmp rfl, item_tmp rfl, trivial⟩) ⟨(⟨none, 0, 0⟩ : Sl), r1_1, rfl, H⟩)
 ·
  replace H := H.2 hc_
  clear hc_
  refine J_skip ?_
  refine J_seq ?_
  refine J_region (by decide) ?_
  refine JO_move (v := Sl.v t1) rfl ?_
  refine JO_call Tryz.call123 (vs := [Sl.v t1]) (mc rfl mn) ((hP.spec H).mono ?_ (fun ch Mp h => hX hD h))
  rintro v Mp ⟨M, hP, r2_0, r2_1, rfl, H⟩
  refine JO_move (v := .tuple #[Sl.v r2_0, .int .i64 r2_1]) rfl ?_
  refine JO_extract (vs := #[Sl.v r2_0, .int .i64 r2_1]) (v := Sl.v r2_0) rfl rfl ?_
  refine JO_extract (vs := #[Sl.v r2_0, .int .i64 r2_1]) (v := .int .i64 r2_1) rfl rfl ?_
  refine JO_assign (v := Sl.v r2_0) rfl ?_
  refine JO_assign (v := .int .i64 r2_1) rfl ?_
  refine JO_nil ?_
  refine J_seq ?_
  refine J_seq ?_
  refine J_region (by decide) ?_
  refine JO_move (v := .int .i64 r2_1) rfl ?_
  refine JO_iop (op := .neq) (k := .i64) (a := r2_1) (b := 0) rfl rfl trivial ?_
  refine JO_nil ?_
  refine J_cond (t := r2_1 != 0) rfl (fun hc_ => ?_) (fun hc_ => ?_)
  ·
   replace H := H.1 hc_
   clear hc_
   refine J_seq ?_
   refine J_region (by decide) ?_
   refine JO_move (v := .int .i64 r2_1) rfl ?_
   refine JO_assign (v := Sl.v (⟨none, 0, 0⟩ : Sl)) rfl ?_
   refine JO_assign (v := .int .i64 r2_1) rfl ?_
   refine JO_nil ?_
   exact J_ret (kret (pan := X)  hD (fun _ _ hb => hP.sub hb) (resOk (rs := [.tmp 4, .tmp 5]) (vs := [Sl.v (⟨none, 0, 0⟩ : Sl), .int .i64 r2_1]) rfl ⟨item_tmp rfl, item_tmp rfl, trivial⟩) ⟨(⟨none, 0, 0⟩ : Sl), r2_1, rfl, H⟩)
  ·
   replace H := H.2 hc_
   clear hc_
   refine J_skip ?_
   refine J_seq ?_
   refine J_region (by decide) ?_
   refine JO_move (v := Sl.v r1_0) rfl ?_
   refine JO_move (v := Sl.v r2_0) rfl ?_
   refine JO_bsl (vs := [(0, Sl.v r1_0), (1, Sl.v r2_0)]) (cs := [Sl.v r1_0, Sl.v r2_0]) (c0 := [Sl.v (⟨none, 0, 0⟩ : Sl), Sl.v (⟨none, 0, 0⟩ : Sl)]) ul_55 sz_32 zc_32 (by kernel_rfl) (by decide) (by decide) (mpc rfl (mpc rfl mpn)) rfl ?_
   intro b3 hb
   replace H := H b3 (hP.out hb).1
   replace hP := hP.new hb (.cells #[Sl.v r1_0, Sl.v r2_0] 32 (0, 0))
   refine JO_call Tryz.call124 (vs := [Sl.v (⟨some (b3, 0), 2, 2⟩ : Sl)]) (mc rfl mn) ((hP.spec H).mono ?_ (fun ch Mp h => hX hD h))
   rintro v Mp ⟨M, hP, r4, rfl, H⟩
   refine JO_assign (v := Sl.v r4) rfl ?_
   refine JO_assign (v := .int .i64 0) rfl ?_
   refine JO_nil ?_
   exact J_ret (kret (pan := X)  hD (fun _ _ hb => hP.sub hb) (resOk (rs := [.tmp 4, .tmp 5]) (vs := [Sl.v r4, .int .i64 0]) rfl ⟨item_tmp rfl, item_tmp rfl, trivial⟩) ⟨r4, 0, rfl, H⟩)

/-! (*brazier/disk.Disk).at -/
def S63 (t0 : Option PA) (t1 : ByteArray) (K : Option PA → Bool → Mem → Prop) (X : List PanicEntry → Mem → Prop) : Mem → Prop :=
 ite' t0.isNone (K none false) (nn t0 fun a1 => ldP (a1.1, a1.2 + 1) fun t14_3 => call 130 [ptr t14_3, .string t1] X fun v_ M => ∃ (r5_0 : Int) (r5_1 : Bool), v_ = .tuple #[.int .i64 r5_0, .bool r5_1] ∧ ( ite' (!r5_1) (K none false) (ldL a1 fun t24_6 => ix t24_6 2 r5_0 fun p12 => K (some p12) true)) M)
theorem br63 {t0 : Option PA} {t1 : ByteArray} {K : Option PA → Bool → Mem → Prop} {X : List PanicEntry → Mem → Prop} {M : Mem} (H : S63 t0 t1 K X M) :
  Spec Tryz.prog 63 #[ptr t0, .string t1] M (fun v_ M => ∃ (r0 : Option PA) (r1 : Bool), v_ = .tuple #[ptr r0, .bool r1] ∧ K r0 r1 M) X := by
 refine spec_of_J (args := [ptr t0, .string t1]) Tryz.func63 rfl Tryz.ntmps63 (Nat.le_of_ble_eq_true rfl) ?_
 have hD : (⟨fun i => ([ptr t0, .string t1] : List Value).getD i undef, []⟩ : Env).D = [] := rfl
 have hP := Pv.nil M
 have hX := @kx_of Tryz.prog Tryz.f63 (fun v_ M => ∃ (r0 : Option PA) (r1 : Bool), v_ = .tuple #[ptr r0, .bool r1] ∧ K r0 r1 M) X
 unfold S63 at H
 refine J_seq ?_
 refine J_region (by decide) ?_
 refine JO_assign (v := ptr none) rfl ?_
 refine JO_assign (v := .bool false) rfl ?_
 refine JO_nil ?_
 refine J_seq ?_
 refine J_seq ?_
 refine J_region (by decide) ?_
 refine JO_move (v := ptr t0) rfl ?_
 refine JO_eqlNil (p := t0) ip_26 rfl rfl ?_
 refine JO_nil ?_
 refine J_cond (t := t0.isNone) rfl (fun hc_ => ?_) (fun hc_ => ?_)
 ·
  replace H := H.1 hc_
  clear hc_
  refine J_seq ?_
  refine J_region (by decide) ?_
  refine JO_assign (v := ptr none) rfl ?_
  refine JO_assign (v := .bool false) rfl ?_
  refine JO_nil ?_
  exact J_ret (kret (pan := X)  hD (fun _ _ hb => hP.sub hb) (resOk (rs := [.tmp 4, .tmp 5]) (vs := [ptr none, .bool false]) rfl ⟨item_tmp rfl, item_tmp rfl, trivial⟩) ⟨none, false, rfl, H⟩)
 ·
  replace H := H.2 hc_
  clear hc_
  refine J_skip ?_
  refine J_seq ?_
  refine J_region (by decide) ?_
  refine JO_move (v := ptr t0) rfl ?_
  obtain ⟨a1, g2, H⟩ := H
  refine JO_nilCheck (p := a1) (tr1 (rfl : _ = ptr t0) (congrArg ptr g2)) ?_
  refine JO_fieldAddr (p := a1) fo_115_1 rfl ?_
  obtain ⟨t14_3, g4, H⟩ := H
  refine JO_load (p := (a1.1, a1.2 + 1)) (v := ptr t14_3) na_108 rfl (hP.cel g4) ?_
  refine JO_move (v := .string t1) rfl ?_
  refine JO_call Tryz.call130 (vs := [ptr t14_3, .string t1]) (mc rfl (mc rfl mn)) ((hP.spec H).mono ?_ (fun ch Mp h => hX hD h))
  rintro v Mp ⟨M, hP, r5_0, r5_1, rfl, H⟩
  refine JO_move (v := .tuple #[.int .i64 r5_0, .bool r5_1]) rfl ?_
  refine JO_extract (vs := #[.int .i64 r5_0, .bool r5_1]) (v := .int .i64 r5_0) rfl rfl ?_
  refine JO_extract (vs := #[.int .i64 r5_0, .bool r5_1]) (v := .bool r5_1) rfl rfl ?_
  refine JO_assign (v := .int .i64 r5_0) rfl ?_
  refine JO_assign (v := .bool r5_1) rfl ?_
  refine JO_nil ?_
  refine J_seq ?_
  refine J_seq ?_
  refine J_region (by decide) ?_
  refine JO_move (v := .bool r5_1) rfl ?_
  refine JO_not (b := r5_1) rfl ?_
  refine JO_nil ?_
  refine J_cond (t := !r5_1) rfl (fun hc_ => ?_) (fun hc_ => ?_)
  ·
   replace H := H.1 hc_
   clear hc_
   refine J_seq ?_
   refine J_region (by decide) ?_
   refine JO_assign (v := ptr none) rfl ?_
   refine JO_assign (v := .bool false) rfl ?_
   refine JO_nil ?_
   exact J_ret (kret (pan := X)  hD (fun _ _ hb => hP.sub hb) (resOk (rs := [.tmp 4, .tmp 5]) (vs := [ptr none, .bool false]) rfl ⟨item_tmp rfl, item_tmp rfl, trivial⟩) ⟨none, false, rfl, H⟩)
  ·
   replace H := H.2 hc_
   clear hc_
   refine J_skip ?_
   refine J_seq ?_
   refine J_region (by decide) ?_
   refine JO_move (v := ptr t0) rfl ?_
   refine JO_nilCheck (p := a1) (tr1 (rfl : _ = ptr t0) (congrArg ptr g2)) ?_
   refine JO_fieldAddr (p := a1) fo_115_0 rfl ?_
   obtain ⟨t24_6, g7, H⟩ := H
   refine JO_load (p := a1) (v := Sl.v t24_6) na_112 rfl (hP.cel g7) ?_
   refine JO_move (v := .int .i64 r5_0) rfl ?_
   obtain ⟨a8, g9, g10, g11, H⟩ := H
   refine JO_indexAddr (s := t24_6) (p := a8) (i := r5_0) es_112 rfl rfl g9 g10 g11 ?_
   obtain ⟨p12, hq_⟩ : ∃ q : PA, q = (a8.1, a8.2 + (r5_0 : Int).toNat * 2) := ⟨_, rfl⟩; rw [← hq_] at H ⊢; clear hq_
   refine JO_assign (v := ptr (some p12)) rfl ?_
   refine JO_assign (v := .bool true) rfl ?_
   refine JO_nil ?_
   exact J_ret (kret (pan := X)  hD (fun _ _ hb => hP.sub hb) (resOk (rs := [.tmp 4, .tmp 5]) (vs := [ptr (some p12), .bool true]) rfl ⟨item_tmp rfl, item_tmp rfl, trivial⟩) ⟨(some p12), true, rfl, H⟩)

/-! slices.CompactFunc[[][]byte,[]byte] -/
def S72_5 (t5_ : Int) (t7_ : Int) (t0_ : Sl) (t1_ : Value) (t6_ : Sl) (K : Sl → Mem → Prop) (X : List PanicEntry → Mem → Prop) (next2 : Int → Mem → Prop) (next4 : (Int × Int) → Mem → Prop) : Mem → Prop :=
 next4 (t5_, IntKind.wrap .i64 (t7_ + 1))
def S72_3 (t5_ : Int) (t0_ : Sl) (t1_ : Value) (K : Sl → Mem → Prop) (X : List PanicEntry → Mem → Prop) (next2 : Int → Mem → Prop) : Mem → Prop :=
 must (0 ≤ t5_ ∧ t5_ ≤ (t0_.n : Int) ∧ True ∧ (t0_.c : Int) ≤ (t0_.c : Int)) <| clr [Sl.v (⟨none, 0, 0⟩ : Sl)] (Sl.cut t0_ 1 t5_ (t0_.n : Int) (t0_.c : Int)) <| must (0 ≤ (0 : Int) ∧ (0 : Int) ≤ t5_ ∧ t5_ ≤ (t0_.c : Int) ∧ (t0_.c : Int) ≤ (t0_.c : Int)) <| K (Sl.cut t0_ 1 (0 : Int) t5_ (t0_.c : Int))
def S72_4b (t6_ : Sl) (t0_ : Sl) (t1_ : Value) (K : Sl → Mem → Prop) (X : List PanicEntry → Mem → Prop) (next2 : Int → Mem → Prop) (t5_ : Int) (t7_ : Int) (next4 : (Int × Int) → Mem → Prop) : Mem → Prop :=
 ite' (decide (t7_ < (t6_.n : Int))) (ix t6_ 1 t7_ fun p21 => ix t6_ 1 (IntKind.wrap .i64 (t7_ - 1)) fun p26 => ldL p21 fun t42_27 => ldL p26 fun t47_29 => callV t1_ [Sl.v t42_27, Sl.v t47_29] (fun _ _ => False) fun v_ M => ∃ (r31 : Bool), v_ = .bool r31 ∧ ( ite' (!r31) (ix t6_ 1 t7_ fun p36 => ldL p36 fun t55_37 => ix t0_ 1 t5_ fun p43 => st p43 (Sl.v t55_37) <| S72_5 (IntKind.wrap .i64 (t5_ + 1)) t7_ t0_ t1_ t6_ K X next2 next4) (S72_5 t5_ t7_ t0_ t1_ t6_ K X next2 next4)) M) (S72_3 t5_ t0_ t1_ K X next2)
def S72_4 (t5_ : Int) (t6_ : Sl) (t7_ : Int) (t0_ : Sl) (t1_ : Value) (K : Sl → Mem → Prop) (X : List PanicEntry → Mem → Prop) (next2 : Int → Mem → Prop) : Mem → Prop :=
 Lp (fun (s_ : (Int × Int)) next4 => S72_4b t6_ t0_ t1_ K X next2 s_.1 s_.2 next4) (t5_, t7_)
def S72_1 (t0_ : Sl) (K : Sl → Mem → Prop) (X : List PanicEntry → Mem → Prop) : Mem → Prop :=
 K t0_
def S72_2b (t0_ : Sl) (t1_ : Value) (K : Sl → Mem → Prop) (X : List PanicEntry → Mem → Prop) (t5_ : Int) (next2 : Int → Mem → Prop) : Mem → Prop :=
 ite' (decide (t5_ < (t0_.n : Int))) (ix t0_ 1 t5_ fun p5 => ix t0_ 1 (IntKind.wrap .i64 (t5_ - 1)) fun p10 => ldL p5 fun t22_11 => ldL p10 fun t27_13 => callV t1_ [Sl.v t22_11, Sl.v t27_13] (fun _ _ => False) fun v_ M => ∃ (r15 : Bool), v_ = .bool r15 ∧ ( ite' r15 (must (0 ≤ t5_ ∧ t5_ ≤ (t0_.n : Int) ∧ True ∧ (t0_.c : Int) ≤ (t0_.c : Int)) <| S72_4 t5_ (Sl.cut t0_ 1 t5_ (t0_.n : Int) (t0_.c : Int)) 1 t0_ t1_ K X next2) (next2 (IntKind.wrap .i64 (t5_ + 1)))) M) (S72_1 t0_ K X)
def S72_2 (t0_ : Sl) (t1_ : Value) (t5_ : Int) (K : Sl → Mem → Prop) (X : List PanicEntry → Mem → Prop) : Mem → Prop :=
 Lp (fun (s_ : Int) next2 => S72_2b t0_ t1_ K X s_ next2) t5_
def S72 (t0 : Sl) (t1 : Value) (K : Sl → Mem → Prop) (X : List PanicEntry → Mem → Prop) : Mem → Prop :=
 ite' (decide ((t0.n : Int) < 2)) (K t0) (S72_2 t0 t1 1 K X)
abbrev F72_5 (t0_ : Sl) (t1_ : Value) (t6_ : Sl) (K : Sl → Mem → Prop) (X : List PanicEntry → Mem → Prop) (next2 : Int → Mem → Prop) (next4 : (Int × Int) → Mem → Prop) (e : Env) (Mp : Mem) : Prop := ∃ (t5_ : Int) (t7_ : Int) (M : Mem), e.D = [] ∧ e.v 0 = Sl.v t0_ ∧ e.v 1 = t1_ ∧ e.v 5 = .int .i64 t5_ ∧ e.v 6 = Sl.v t6_ ∧ e.v 7 = .int .i64 t7_ ∧ Pv M [] Mp ∧ S72_5 t5_ t7_ t0_ t1_ t6_ K X next2 next4 M
abbrev F72_4 (t0_ : Sl) (t1_ : Value) (K : Sl → Mem → Prop) (X : List PanicEntry → Mem → Prop) (next2 : Int → Mem → Prop) (e : Env) (Mp : Mem) : Prop := ∃ (t5_ : Int) (t6_ : Sl) (t7_ : Int) (M : Mem), e.D = [] ∧ e.v 0 = Sl.v t0_ ∧ e.v 1 = t1_ ∧ e.v 5 = .int .i64 t5_ ∧ e.v 6 = Sl.v t6_ ∧ e.v 7 = .int .i64 t7_ ∧ Pv M [] Mp ∧ S72_4 t5_ t6_ t7_ t0_ t1_ K X next2 M
abbrev F72_3 (t0_ : Sl) (t1_ : Value) (K : Sl → Mem → Prop) (X : List PanicEntry → Mem → Prop) (next2 : Int → Mem → Prop) (e : Env) (Mp : Mem) : Prop := ∃ (t5_ : Int) (M : Mem), e.D = [] ∧ e.v 0 = Sl.v t0_ ∧ e.v 5 = .int .i64 t5_ ∧ Pv M [] Mp ∧ S72_3 t5_ t0_ t1_ K X next2 M
abbrev F72_2 (K : Sl → Mem → Prop) (X : List PanicEntry → Mem → Prop) (e : Env) (Mp : Mem) : Prop := ∃ (t0_ : Sl) (t1_ : Value) (t5_ : Int) (M : Mem), e.D = [] ∧ e.v 0 = Sl.v t0_ ∧ e.v 1 = t1_ ∧ e.v 5 = .int .i64 t5_ ∧ Pv M [] Mp ∧ S72_2 t0_ t1_ t5_ K X M
abbrev F72_1 (K : Sl → Mem → Prop) (X : List PanicEntry → Mem → Prop) (e : Env) (Mp : Mem) : Prop := ∃ (t0_ : Sl) (M : Mem), e.D = [] ∧ e.v 0 = Sl.v t0_ ∧ Pv M [] Mp ∧ S72_1 t0_ K X M
theorem br72 {t0 : Sl} {t1 : Value} {K : Sl → Mem → Prop} {X : List PanicEntry → Mem → Prop} {M : Mem} (H : S72 t0 t1 K X M) :
  Spec Tryz.prog 72 #[Sl.v t0, t1] M (fun v_ M => ∃ (r0 : Sl), v_ = Sl.v r0 ∧ K r0 M) X := by
 refine spec_of_J (args := [Sl.v t0, t1]) Tryz.func72 rfl Tryz.ntmps72 (Nat.le_of_ble_eq_true rfl) ?_
 have hD : (⟨fun i => ([Sl.v t0, t1] : List Value).getD i undef, []⟩ : Env).D = [] := rfl
 have hP := Pv.nil M
 have hX := @kx_of Tryz.prog Tryz.f72 (fun v_ M => ∃ (r0 : Sl), v_ = Sl.v r0 ∧ K r0 M) X
 unfold S72 at H
 refine J_seq ?_
 refine J_region (by decide) ?_
 refine JO_assign (v := Sl.v (⟨none, 0, 0⟩ : Sl)) rfl ?_
 refine JO_nil ?_
 refine J_seq ?_
 refine J_seq ?_
 refine J_region (by decide) ?_
 refine JO_move (v := Sl.v t0) rfl ?_
 refine JO_len (s := t0) is_55 rfl ?_
 refine JO_iop (op := .lss) (k := .i64) (a := (t0.n : Int)) (b := 2) rfl rfl trivial ?_
 refine JO_nil ?_
 refine J_cond (t := decide ((t0.n : Int) < 2)) rfl (fun hc_ => ?_) (fun hc_ => ?_)
 ·
  replace H := H.1 hc_
  clear hc_
  refine J_seq ?_
  refine J_region (by decide) ?_
  refine JO_move (v := Sl.v t0) rfl ?_
  refine JO_assign (v := Sl.v t0) rfl ?_
  refine JO_nil ?_
  exact J_ret (kret (pan := X)  hD (fun _ _ hb => hP.sub hb) (resOk (rs := [.tmp 4]) (vs := [Sl.v t0]) rfl ⟨item_tmp rfl, trivial⟩) ⟨t0, rfl, H⟩)
 ·
  replace H := H.2 hc_
  clear hc_
  refine J_skip ?_
  refine J_seq ?_
  refine J_seq ?_
  refine J_region (by decide) ?_
  refine JO_assign (v := .int .i64 1) rfl ?_
  refine JO_nil ?_
  refine J_blockF (F72_1 K X) ?_ ?_
  ·
   refine J_of (F72_2 K X) (show F72_2 K X _ _ from ⟨t0, t1, 1, _, hD, rfl, rfl, rfl, hP, H⟩) ?_
   rintro e Mp ⟨t0_, t1_, t5_, M, hD, h0, h1, h5, hP, H⟩
   unfold S72_2 at H
   refine J_loopP (σ := Int) (body := fun (s_ : Int) next2 => S72_2b t0_ t1_ K X s_ next2) (s := t5_) (M := M) (fun (s_ : Int) (e : Env) (M Mp : Mem) => e.D = [] ∧ e.v 0 = Sl.v t0_ ∧ e.v 1 = t1_ ∧ e.v 5 = .int .i64 s_ ∧ Pv M [] Mp) ?_ ⟨hD, h0, h1, h5, hP⟩ H
   rintro next2 t5_ e M Mp ⟨hD, h0, h1, h5, hP⟩ H
   replace H : S72_2b t0_ t1_ K X t5_ next2 M := H
   unfold S72_2b at H
   refine J_seq ?_
   refine J_seq ?_
   refine J_region (by decide) ?_
   refine JO_move (v := .int .i64 t5_) h5 ?_
   refine JO_move (v := Sl.v t0_) h0 ?_
   refine JO_len (s := t0_) is_55 rfl ?_
   refine JO_iop (op := .lss) (k := .i64) (a := t5_) (b := (t0_.n : Int)) rfl rfl trivial ?_
   refine JO_nil ?_
   refine J_cond (t := decide (t5_ < (t0_.n : Int))) rfl (fun hc_ => ?_) (fun hc_ => ?_)
   ·
    replace H := H.1 hc_
    clear hc_
    refine J_skip ?_
    refine J_seq ?_
    refine J_block ?_
    refine J_seq ?_
    refine J_draw [0, 0, 0, 0, 1, 0, 0, 0, 0, 1, 3] (.cho 0 (.cho 1 (.cho 2 (.cho 3 (.cho 5 (.cho 6 (.cho 7 (.cho 8 (.cho 4 (.cho 9 (.cho 10 .done .none) .none) .none) .none) .none) .none) .none) .none) .none) .none) .none) rfl (by kernel_rfl) ?_
    refine JE_one ?_
    refine ST0 (fun _ h => by cases h) (fun w => OV_move (v := t1_) (by exact h1) w) ?_
    refine JE_one ?_
    refine ST0 (fun _ h => by cases h) (fun w => OV_move (v := Sl.v t0_) (by exact h0) w) ?_
    refine JE_one ?_
    refine ST0 (fun _ h => by cases h) (fun w => OV_move (v := .int .i64 t5_) (by exact h5) w) ?_
    refine JE_one ?_
    obtain ⟨a1, g2, g3, g4, H⟩ := H
    refine ST0 (fun _ h => by cases h) (fun w => OV_indexAddr (s := t0_) (p := a1) (i := t5_) es_55 rfl rfl g2 g3 g4 w) ?_
    obtain ⟨p5, hq_⟩ : ∃ q : PA, q = (a1.1, a1.2 + (t5_ : Int).toNat * 1) := ⟨_, rfl⟩; rw [← hq_] at H ⊢; clear hq_
    refine JE_one ?_
    refine ST0 (fun _ h => by cases h) (fun w => OV_move (v := Sl.v t0_) (by exact h0) w) ?_
    refine JE_one ?_
    refine ST0 (fun _ h => by cases h) (fun w => OV_move (v := .int .i64 t5_) (by exact h5) w) ?_
    refine JE_one ?_
    refine ST0 (fun _ h => by cases h) (fun w => OV_iop (op := .sub) (k := .i64) (a := t5_) (b := 1) rfl rfl trivial w) ?_
    refine JE_one ?_
    obtain ⟨a6, g7, g8, g9, H⟩ := H
    refine ST0 (fun _ h => by cases h) (fun w => OV_indexAddr (s := t0_) (p := a6) (i := IntKind.wrap .i64 (t5_ - 1)) es_55 rfl rfl g7 g8 g9 w) ?_
    obtain ⟨p10, hq_⟩ : ∃ q : PA, q = (a6.1, a6.2 + (IntKind.wrap .i64 (t5_ - 1) : Int).toNat * 1) := ⟨_, rfl⟩; rw [← hq_] at H ⊢; clear hq_
    refine JE_one ?_
    obtain ⟨t22_11, g12, H⟩ := H
    refine ST1 (fun _ h => by cases h) (fun w hs => OV_load (p := p5) (v := Sl.v t22_11) na_32 rfl (hP.cel g12) w hs) ?_
    refine JE_one ?_
    obtain ⟨t27_13, g14, H⟩ := H
    refine ST1 (fun _ h => by cases h) (fun w hs => OV_load (p := p10) (v := Sl.v t27_13) na_32 rfl (hP.cel g14) w hs) ?_
    refine JE_one ?_
    refine ST3 ?_
    refine JO_callV (vs := [Sl.v t22_11, Sl.v t27_13]) rfl (mc rfl (mc rfl mn)) ((hP.callV (H _)).mono ?_ (fun _ _ ⟨_, _, f⟩ => f.elim))
    rintro v Mp ⟨M, hP, r15, rfl, H⟩
    refine Kd_nil ?_
    refine JE_done ?_
    refine J_cond (t := r15) rfl (fun hc_ => ?_) (fun hc_ => ?_)
    ·
     replace H := H.1 hc_
     clear hc_
     refine J_seq ?_
     refine J_region (by decide) ?_
     refine JO_move (v := Sl.v t0_) h0 ?_
     refine JO_move (v := .int .i64 t5_) h5 ?_
     obtain ⟨g16, H⟩ := H
     refine JO_slice (s := t0_) (l := t5_) (h := (t0_.n : Int)) (m := (t0_.c : Int)) es_55 rfl rfl rfl ⟨_, rfl⟩ g16.1 g16.2.1 (by simp) g16.2.2.2 (by simp) ?_
     refine JO_assign (v := Sl.v (Sl.cut t0_ 1 t5_ (t0_.n : Int) (t0_.c : Int))) rfl ?_
     refine JO_nil ?_
     refine J_seq ?_
     refine J_seq ?_
     refine J_region (by decide) ?_
     refine JO_assign (v := .int .i64 1) rfl ?_
     refine JO_nil ?_
     refine J_blockF (F72_3 t0_ t1_ K X next2) ?_ ?_
     ·
      refine J_of (F72_4 t0_ t1_ K X next2) (show F72_4 t0_ t1_ K X next2 _ _ from ⟨t5_, Sl.cut t0_ 1 t5_ (t0_.n : Int) (t0_.c : Int), 1, _, hD, h0, h1, h5, rfl, rfl, hP, H⟩) ?_
      rintro e Mp ⟨t5_, t6_, t7_, M, hD, h0, h1, h5, h6, h7, hP, H⟩
      unfold S72_4 at H
      refine J_loopP (σ := (Int × Int)) (body := fun (s_ : (Int × Int)) next4 => S72_4b t6_ t0_ t1_ K X next2 s_.1 s_.2 next4) (s := (t5_, t7_)) (M := M) (fun (s_ : (Int × Int)) (e : Env) (M Mp : Mem) => e.D = [] ∧ e.v 0 = Sl.v t0_ ∧ e.v 1 = t1_ ∧ e.v 5 = .int .i64 s_.1 ∧ e.v 6 = Sl.v t6_ ∧ e.v 7 = .int .i64 s_.2 ∧ Pv M [] Mp) ?_ ⟨hD, h0, h1, h5, h6, h7, hP⟩ H
      rintro next4 ⟨t5_, t7_⟩ e M Mp ⟨hD, h0, h1, h5, h6, h7, hP⟩ H
      replace H : S72_4b t6_ t0_ t1_ K X next2 t5_ t7_ next4 M := H
      unfold S72_4b at H
      refine J_seq ?_
      refine J_seq ?_
      refine J_region (by decide) ?_
      refine JO_move (v := .int .i64 t7_) h7 ?_
      refine JO_move (v := Sl.v t6_) h6 ?_
      refine JO_len (s := t6_) is_55 rfl ?_
      refine JO_iop (op := .lss) (k := .i64) (a := t7_) (b := (t6_.n : Int)) rfl rfl trivial ?_
      refine JO_nil ?_
      refine J_cond (t := decide (t7_ < (t6_.n : Int))) rfl (fun hc_ => ?_) (fun hc_ => ?_)
      ·
       replace H := H.1 hc_
       clear hc_
       refine J_skip ?_
       refine J_seq ?_
       refine J_blockF (F72_5 t0_ t1_ t6_ K X next2 next4) ?_ ?_
       ·
        refine J_seq ?_
        refine J_draw [0, 0, 0, 0, 1, 0, 0, 0, 0, 1, 3, 0] (.cho 0 (.cho 1 (.cho 2 (.cho 3 (.cho 5 (.cho 6 (.cho 7 (.cho 8 (.cho 4 (.cho 9 (.cho 10 (.cho 11 .done .none) .none) .none) .none) .none) .none) .none) .none) .none) .none) .none) .none) rfl (by kernel_rfl) ?_
        refine JE_one ?_
        refine ST0 (fun _ h => by cases h) (fun w => OV_move (v := t1_) (by exact h1) w) ?_
        refine JE_one ?_
        refine ST0 (fun _ h => by cases h) (fun w => OV_move (v := Sl.v t6_) (by exact h6) w) ?_
        refine JE_one ?_
        refine ST0 (fun _ h => by cases h) (fun w => OV_move (v := .int .i64 t7_) (by exact h7) w) ?_
        refine JE_one ?_
        obtain ⟨a17, g18, g19, g20, H⟩ := H
        refine ST0 (fun _ h => by cases h) (fun w => OV_indexAddr (s := t6_) (p := a17) (i := t7_) es_55 rfl rfl g18 g19 g20 w) ?_
        obtain ⟨p21, hq_⟩ : ∃ q : PA, q = (a17.1, a17.2 + (t7_ : Int).toNat * 1) := ⟨_, rfl⟩; rw [← hq_] at H ⊢; clear hq_
        refine JE_one ?_
        refine ST0 (fun _ h => by cases h) (fun w => OV_move (v := Sl.v t6_) (by exact h6) w) ?_
        refine JE_one ?_
        refine ST0 (fun _ h => by cases h) (fun w => OV_move (v := .int .i64 t7_) (by exact h7) w) ?_
        refine JE_one ?_
        refine ST0 (fun _ h => by cases h) (fun w => OV_iop (op := .sub) (k := .i64) (a := t7_) (b := 1) rfl rfl trivial w) ?_
        refine JE_one ?_
        obtain ⟨a22, g23, g24, g25, H⟩ := H
        refine ST0 (fun _ h => by cases h) (fun w => OV_indexAddr (s := t6_) (p := a22) (i := IntKind.wrap .i64 (t7_ - 1)) es_55 rfl rfl g23 g24 g25 w) ?_
        obtain ⟨p26, hq_⟩ : ∃ q : PA, q = (a22.1, a22.2 + (IntKind.wrap .i64 (t7_ - 1) : Int).toNat * 1) := ⟨_, rfl⟩; rw [← hq_] at H ⊢; clear hq_
        refine JE_one ?_
        obtain ⟨t42_27, g28, H⟩ := H
        refine ST1 (fun _ h => by cases h) (fun w hs => OV_load (p := p21) (v := Sl.v t42_27) na_32 rfl (hP.cel g28) w hs) ?_
        refine JE_one ?_
        obtain ⟨t47_29, g30, H⟩ := H
        refine ST1 (fun _ h => by cases h) (fun w hs => OV_load (p := p26) (v := Sl.v t47_29) na_32 rfl (hP.cel g30) w hs) ?_
        refine JE_one ?_
        refine ST3 ?_
        refine JO_callV (vs := [Sl.v t42_27, Sl.v t47_29]) rfl (mc rfl (mc rfl mn)) ((hP.callV (H _)).mono ?_ (fun _ _ ⟨_, _, f⟩ => f.elim))
        rintro v Mp ⟨M, hP, r31, rfl, H⟩
        refine Kd_nil ?_
        refine JE_one ?_
        refine ST0 (fun _ h => by cases h) (fun w => OV_not (b := r31) rfl w) ?_
        refine JE_done ?_
        refine J_cond (t := !r31) rfl (fun hc_ => ?_) (fun hc_ => ?_)
        ·
         replace H := H.1 hc_
         clear hc_
         refine J_seq ?_
         refine J_region (by decide) ?_
         refine JO_move (v := Sl.v t0_) h0 ?_
         refine JO_move (v := .int .i64 t5_) h5 ?_
         refine JO_move (v := Sl.v t6_) h6 ?_
         refine JO_move (v := .int .i64 t7_) h7 ?_
         obtain ⟨a32, g33, g34, g35, H⟩ := H
         refine JO_indexAddr (s := t6_) (p := a32) (i := t7_) es_55 rfl rfl g33 g34 g35 ?_
         obtain ⟨p36, hq_⟩ : ∃ q : PA, q = (a32.1, a32.2 + (t7_ : Int).toNat * 1) := ⟨_, rfl⟩; rw [← hq_] at H ⊢; clear hq_
         obtain ⟨t55_37, g38, H⟩ := H
         refine JO_load (p := p36) (v := Sl.v t55_37) na_32 rfl (hP.cel g38) ?_
         obtain ⟨a39, g40, g41, g42, H⟩ := H
         refine JO_indexAddr (s := t0_) (p := a39) (i := t5_) es_55 rfl rfl g40 g41 g42 ?_
         obtain ⟨p43, hq_⟩ : ∃ q : PA, q = (a39.1, a39.2 + (t5_ : Int).toNat * 1) := ⟨_, rfl⟩; rw [← hq_] at H ⊢; clear hq_
         obtain ⟨g44, H⟩ := H
         refine JO_store (p := p43) (v := Sl.v t55_37) sz_32 rfl rfl rfl (hP.wr g44) ?_
         replace hP := hP.sto g44 (Sl.v t55_37)
         refine JO_nil ?_
         refine J_region (by decide) ?_
         refine JO_move (v := .int .i64 t5_) h5 ?_
         refine JO_iop (op := .add) (k := .i64) (a := t5_) (b := 1) rfl rfl trivial ?_
         refine JO_assign (v := .int .i64 (IntKind.wrap .i64 (t5_ + 1))) rfl ?_
         refine JO_nil ?_
         exact (show F72_5 t0_ t1_ t6_ K X next2 next4 _ _ from ⟨IntKind.wrap .i64 (t5_ + 1), t7_, _, hD, h0, h1, rfl, h6, h7, hP, H⟩)
        ·
         replace H := H.2 hc_
         clear hc_
         refine J_skip ?_
         exact (show F72_5 t0_ t1_ t6_ K X next2 next4 _ _ from ⟨t5_, t7_, _, hD, h0, h1, h5, h6, h7, hP, H⟩)
       ·
        rintro e Mp ⟨t5_, t7_, M, hD, h0, h1, h5, h6, h7, hP, H⟩
        unfold S72_5 at H
        refine J_region (by decide) ?_
        refine JO_move (v := .int .i64 t7_) h7 ?_
        refine JO_iop (op := .add) (k := .i64) (a := t7_) (b := 1) rfl rfl trivial ?_
        refine JO_assign (v := .int .i64 (IntKind.wrap .i64 (t7_ + 1))) rfl ?_
        refine JO_nil ?_
        exact ⟨(t5_, IntKind.wrap .i64 (t7_ + 1)), _, ⟨hD, h0, h1, h5, h6, rfl, hP⟩, H⟩
      ·
       replace H := H.2 hc_
       clear hc_
       refine J_exit ?_
       exact (show F72_3 t0_ t1_ K X next2 _ _ from ⟨t5_, _, hD, h0, h5, hP, H⟩)
     ·
      rintro e Mp ⟨t5_, M, hD, h0, h5, hP, H⟩
      unfold S72_3 at H
      refine J_seq ?_
      refine J_region (by decide) ?_
      refine JO_move (v := Sl.v t0_) h0 ?_
      refine JO_move (v := .int .i64 t5_) h5 ?_
      obtain ⟨g45, H⟩ := H
      refine JO_slice (s := t0_) (l := t5_) (h := (t0_.n : Int)) (m := (t0_.c : Int)) es_55 rfl rfl rfl ⟨_, rfl⟩ g45.1 g45.2.1 (by simp) g45.2.2.2 (by simp) ?_
      refine JO_loud ((hP.opJ (OpJ_clr (s := Sl.cut t0_ 1 t5_ (t0_.n : Int) (t0_.c : Int)) ul_55 zc_32 rfl H)).mono (fun _ _ h => h) (fun _ _ ⟨_, _, f⟩ => f.elim)) ?_
      rintro _ Mp ⟨M, hP, H⟩
      refine JO_nil ?_
      refine J_seq ?_
      refine J_region (by decide) ?_
      refine JO_move (v := Sl.v t0_) h0 ?_
      refine JO_move (v := .int .i64 t5_) h5 ?_
      obtain ⟨g46, H⟩ := H
      refine JO_slice (s := t0_) (l := (0 : Int)) (h := t5_) (m := (t0_.c : Int)) es_55 rfl rfl ⟨_, rfl⟩ rfl g46.1 g46.2.1 (fun _ => g46.2.2.1) g46.2.2.2 (by simp) ?_
      refine JO_assign (v := Sl.v (Sl.cut t0_ 1 (0 : Int) t5_ (t0_.c : Int))) rfl ?_
      refine JO_nil ?_
      exact J_ret (kret (pan := X)  hD (fun _ _ hb => hP.sub hb) (resOk (rs := [.tmp 4]) (vs := [Sl.v (Sl.cut t0_ 1 (0 : Int) t5_ (t0_.c : Int))]) rfl ⟨item_tmp rfl, trivial⟩) ⟨Sl.cut t0_ 1 (0 : Int) t5_ (t0_.c : Int), rfl, H⟩)
    ·
     replace H := H.2 hc_
     clear hc_
     refine J_skip ?_
     refine J_region (by decide) ?_
     refine JO_move (v := .int .i64 t5_) h5 ?_
     refine JO_iop (op := .add) (k := .i64) (a := t5_) (b := 1) rfl rfl trivial ?_
     refine JO_assign (v := .int .i64 (IntKind.wrap .i64 (t5_ + 1))) rfl ?_
     refine JO_nil ?_
     exact ⟨IntKind.wrap .i64 (t5_ + 1), _, ⟨hD, h0, h1, rfl, hP⟩, H⟩
   ·
    replace H := H.2 hc_
    clear hc_
    refine J_exit ?_
    exact (show F72_1 K X _ _ from ⟨t0_, _, hD, h0, hP, H⟩)
  ·
   rintro e Mp ⟨t0_, M, hD, h0, hP, H⟩
   unfold S72_1 at H
   refine J_seq ?_
   refine J_region (by decide) ?_
   refine JO_move (v := Sl.v t0_) h0 ?_
   refine JO_assign (v := Sl.v t0_) rfl ?_
   refine JO_nil ?_
   exact J_ret (kret (pan := X)  hD (fun _ _ hb => hP.sub hb) (resOk (rs := [.tmp 4]) (vs := [Sl.v t0_]) rfl ⟨item_tmp rfl, trivial⟩) ⟨t0_, rfl, H⟩)

/-! internal/stringslite.HasPrefix -/
def S118_1 (t17_ : Bool) (K : Bool → Mem → Prop) (X : List PanicEntry → Mem → Prop) : Mem → Prop :=
 K t17_
def S118 (t0 : ByteArray) (t1 : ByteArray) (K : Bool → Mem → Prop) (X : List PanicEntry → Mem → Prop) : Mem → Prop :=
 ite' (decide ((t0.size : Int) ≥ (t1.size : Int))) (must (0 ≤ (0 : Int) ∧ (0 : Int) ≤ (t1.size : Int) ∧ (t1.size : Int) ≤ (t0.size : Int)) <| S118_1 (seq (t0.extract (0 : Int).toNat (t1.size : Int).toNat) t1) K X) (S118_1 false K X)
abbrev F118_1 (K : Bool → Mem → Prop) (X : List PanicEntry → Mem → Prop) (e : Env) (Mp : Mem) : Prop := ∃ (t17_ : Bool) (M : Mem), e.D = [] ∧ e.v 17 = .bool t17_ ∧ Pv M [] Mp ∧ S118_1 t17_ K X M
theorem br118 {t0 : ByteArray} {t1 : ByteArray} {K : Bool → Mem → Prop} {X : List PanicEntry → Mem → Prop} {M : Mem} (H : S118 t0 t1 K X M) :
  Spec Tryz.prog 118 #[.string t0, .string t1] M (fun v_ M => ∃ (r0 : Bool), v_ = .bool r0 ∧ K r0 M) X := by
 refine spec_of_J (args := [.string t0, .string t1]) Tryz.func118 rfl Tryz.ntmps118 (Nat.le_of_ble_eq_true rfl) ?_
 have hD : (⟨fun i => ([.string t0, .string t1] : List Value).getD i undef, []⟩ : Env).D = [] := rfl
 have hP := Pv.nil M
 have hX := @kx_of Tryz.prog Tryz.f118 (fun v_ M => ∃ (r0 : Bool), v_ = .bool r0 ∧ K r0 M) X
 unfold S118 at H
 refine J_seq ?_
 refine J_region (by decide) ?_
 refine JO_assign (v := .bool false) rfl ?_
 refine JO_nil ?_
 refine J_seq ?_
 refine J_region (by decide) ?_
 refine JO_move (v := .string t0) rfl ?_
 refine JO_slen (a := t0) ul_9 rfl ?_
 refine JO_move (v := .string t1) rfl ?_
 refine JO_slen (a := t1) ul_9 rfl ?_
 refine JO_iop (op := .geq) (k := .i64) (a := (t0.size : Int)) (b := (t1.size : Int)) rfl rfl trivial ?_
 refine JO_move (v := .bool (decide ((t0.size : Int) ≥ (t1.size : Int)))) rfl ?_
 refine JO_cut 7 (F118_1 K X) ?_ ?_
 ·
  obtain ⟨H1, H2⟩ := H
  obtain hc_ | hc_ := ff_or_tt (decide ((t0.size : Int) ≥ (t1.size : Int)))
  ·
   replace H := H2 hc_
   clear H1 H2
   have hg1 := (congrArg Value.bool hc_ : Value.bool (decide ((t0.size : Int) ≥ (t1.size : Int))) = Value.bool false)
   refine JO_off (s := 10) (c := false) hg1 (by decide) ?_
   refine JO_off (s := 10) (c := false) hg1 (by decide) ?_
   refine JO_off (s := 10) (c := false) hg1 (by decide) ?_
   refine JO_off (s := 10) (c := false) hg1 (by decide) ?_
   refine JO_off (s := 10) (c := false) hg1 (by decide) ?_
   refine JO_off (s := 10) (c := false) hg1 (by decide) ?_
   refine JO_pick (b := false) (v := .bool false) hg1 rfl ?_
   refine JO_nil ?_
   exact (show F118_1 K X _ _ from ⟨false, _, hD, rfl, hP, H⟩)
  ·
   replace H := H1 hc_
   clear H1 H2
   have hg2 := (congrArg Value.bool hc_ : Value.bool (decide ((t0.size : Int) ≥ (t1.size : Int))) = Value.bool true)
   refine JO_on (s := 10) hg2 ?_
   refine JO_move (v := .string t0) rfl ?_
   refine JO_on (s := 10) hg2 ?_
   refine JO_move (v := .string t1) rfl ?_
   refine JO_on (s := 10) hg2 ?_
   refine JO_slen (a := t1) ul_9 rfl ?_
   refine JO_on (s := 10) hg2 ?_
   obtain ⟨g3, H⟩ := H
   refine JO_sslice (s := t0) (l := (0 : Int)) (h := (t1.size : Int)) ul_9 rfl ⟨_, rfl⟩ rfl g3.1 g3.2.1 g3.2.2 ?_
   refine JO_on (s := 10) hg2 ?_
   refine JO_move (v := .string t1) rfl ?_
   refine JO_on (s := 10) hg2 ?_
   refine JO_scmp (op := .eql) (a := t0.extract (0 : Int).toNat (t1.size : Int).toNat) (b := t1) (v := .bool (seq (t0.extract (0 : Int).toNat (t1.size : Int).toNat) t1)) rfl rfl rfl ?_
   refine JO_pick (b := true) (v := .bool (seq (t0.extract (0 : Int).toNat (t1.size : Int).toNat) t1)) hg2 rfl ?_
   refine JO_nil ?_
   exact (show F118_1 K X _ _ from ⟨seq (t0.extract (0 : Int).toNat (t1.size : Int).toNat) t1, _, hD, rfl, hP, H⟩)
 ·
  rintro e Mp ⟨t17_, M, hD, h17, hP, H⟩
  unfold S118_1 at H
  refine JO_assign (v := .bool t17_) h17 ?_
  refine JO_nil ?_
  exact J_ret (kret (pan := X)  hD (fun _ _ hb => hP.sub hb) (resOk (rs := [.tmp 4]) (vs := [.bool t17_]) rfl ⟨item_tmp rfl, trivial⟩) ⟨t17_, rfl, H⟩)

/-! brazier/disk.copied -/
def S122_1b (t2_ : Option PA) (a3_ : PA) (t9_ : Value) (K : Option PA → Mem → Prop) (X : List PanicEntry → Mem → Prop) (y5 : ByteArray) (y6 : Int) (nx1 : Mem → Prop) (rt1 : Code → Mem → Prop) : Mem → Prop :=
 ldP a3_ fun t12_7 => call 199 [ptr t12_7, .string y5, .int .i64 y6] (fun _ _ => False) fun v_ M => ∃ (r9 : Bool), v_ = .bool r9 ∧ ( nx1) M
def S122_1 (t2_ : Option PA) (a3_ : PA) (t9_ : Value) (K : Option PA → Mem → Prop) (X : List PanicEntry → Mem → Prop) : Mem → Prop :=
 rng t9_ 2 (fun args_ nx rt M => ∃ (y5 : ByteArray) (y6 : Int), args_ = [.string y5, .int .i64 y6] ∧ S122_1b t2_ a3_ t9_ K X y5 y6 nx rt M) (ldP a3_ fun t16_10 => K t16_10) (fun _ _ => False)
def S122 (t0 : Option PA) (K : Option PA → Mem → Prop) (X : List PanicEntry → Mem → Prop) : Mem → Prop :=
 new (.cells #[Sl.v (⟨none, 0, 0⟩ : Sl), Sl.v (⟨none, 0, 0⟩ : Sl)] 111 (0, 0)) fun b1 => new (.cells #[ptr none] 108 (0, 0)) fun b2 => st (b2, 0) (ptr (some (b1, 0))) <| call 117 [ptr t0] X fun v_ M => ∃ (r4 : Value), v_ = r4 ∧ ( S122_1 none (b2, 0) r4 K X) M
abbrev F122_1 (K : Option PA → Mem → Prop) (X : List PanicEntry → Mem → Prop) (e : Env) (Mp : Mem) : Prop := ∃ (t2_ : Option PA) (a3_ : PA) (t9_ : Value) (M : Mem), e.D = [] ∧ e.v 2 = ptr t2_ ∧ e.v 3 = ptr (some a3_) ∧ e.v 9 = t9_ ∧ Pv M [] Mp ∧ S122_1 t2_ a3_ t9_ K X M
theorem br122 {t0 : Option PA} {K : Option PA → Mem → Prop} {X : List PanicEntry → Mem → Prop} {M : Mem} (H : S122 t0 K X M) :
  Spec Tryz.prog 122 #[ptr t0] M (fun v_ M => ∃ (r0 : Option PA), v_ = ptr r0 ∧ K r0 M) X := by
 refine spec_of_J (args := [ptr t0]) Tryz.func122 rfl Tryz.ntmps122 (Nat.le_of_ble_eq_true rfl) ?_
 have hD : (⟨fun i => ([ptr t0] : List Value).getD i undef, []⟩ : Env).D = [] := rfl
 have hP := Pv.nil M
 have hX := @kx_of Tryz.prog Tryz.f122 (fun v_ M => ∃ (r0 : Option PA), v_ = ptr r0 ∧ K r0 M) X
 unfold S122 at H
 refine J_seq ?_
 refine J_region (by decide) ?_
 refine JO_assign (v := ptr none) rfl ?_
 refine JO_nil ?_
 refine J_seq ?_
 refine J_region (by decide) ?_
 refine JO_bld (vs := []) (cs := [Sl.v (⟨none, 0, 0⟩ : Sl), Sl.v (⟨none, 0, 0⟩ : Sl)]) pl_111 zc_111 mpn rfl ?_
 refine JO_box (v := .agg #[Sl.v (⟨none, 0, 0⟩ : Sl), Sl.v (⟨none, 0, 0⟩ : Sl)]) rfl ?_
 intro b1 hb
 replace H := H b1 (hP.out hb).1
 replace hP := hP.new hb (.cells #[Sl.v (⟨none, 0, 0⟩ : Sl), Sl.v (⟨none, 0, 0⟩ : Sl)] 111 (0, 0))
 refine JO_alloc (cs := [ptr none]) zc_108 ?_
 intro b2 hb
 replace H := H b2 (hP.out hb).1
 replace hP := hP.new hb (.cells #[ptr none] 108 (0, 0))
 obtain ⟨g3, H⟩ := H
 refine JO_store (p := (b2, 0)) (v := ptr (some (b1, 0))) sz_108 rfl rfl rfl (hP.wr g3) ?_
 replace hP := hP.sto g3 (ptr (some (b1, 0)))
 refine JO_nil ?_
 refine J_seq ?_
 refine J_seq ?_
 refine J_region (by decide) ?_
 refine JO_move (v := ptr t0) rfl ?_
 refine JO_call Tryz.call117 (vs := [ptr t0]) (mc rfl mn) ((hP.spec H).mono ?_ (fun ch Mp h => hX hD h))
 rintro r4 Mp ⟨M, hP, _, rfl, H⟩
 refine JO_nil ?_
 refine J_block ?_
 refine J_of (F122_1 K X) (show F122_1 K X _ _ from ⟨none, (b2, 0), r4, _, hD, rfl, rfl, rfl, hP, H⟩) ?_
 rintro e Mp ⟨t2_, a3_, t9_, M, hD, h2, h3, h9, hP, H⟩
 unfold S122_1 at H
 refine J_forget (fun _ _ hb => hP.sub hb) ?_
 obtain ⟨f_, caps_, hf_, he_, H⟩ := H
 refine J_range (gf := f_) (caps := caps_) (h9.trans hf_) he_ (by decide) ?_
 intro y_ l_ oR_ oD_ hM_ law_
 refine (H y_ l_ oR_ oD_ hM_ ?_).mono ?_ (fun _ _ f => f)
 ·
  rintro args_ κ_ M hlen_ hl_ ⟨y5, y6, rfl, hb_⟩ ro_
  refine law_ _ κ_ M hlen_ hl_ ?_ ro_
  obtain ⟨nx1, rt1, hn_1, hr_1, H⟩ : ∃ (nx : Mem → Prop) (rt : Code → Mem → Prop), (∀ M, M l_ = none → nx M → κ_ (.bool true) (M.upd l_ oR_)) ∧ (∀ c M, M l_ = none → rt c M → κ_ (.bool false) (M.upd l_ (oD_ c))) ∧ S122_1b t2_ a3_ t9_ K X y5 y6 nx rt (M.del l_) := ⟨_, _, fun _ h0 h => h h0, fun _ _ h0 h => h h0, hb_⟩
  clear hb_ hlen_ hl_ hP
  generalize M.del l_ = M at H ⊢
  have hP := Pv.nil M
  have hD : ([] : List Deferred) = [] := rfl
  unfold S122_1b at H
  refine J_seq ?_
  refine J_region (by decide) ?_
  refine JO_assign (v := .string y5) rfl ?_
  refine JO_nil ?_
  refine J_region (by decide) ?_
  refine JO_assign (v := .int .i64 y6) rfl ?_
  refine JO_nil ?_
  refine kd_nx ?_
  refine J_block ?_
  refine J_region (by decide) ?_
  obtain ⟨t12_7, g8, H⟩ := H
  refine JO_load (p := a3_) (v := ptr t12_7) na_108 h3 (hP.cel g8) ?_
  refine JO_move (v := .string y5) rfl ?_
  refine JO_move (v := .int .i64 y6) rfl ?_
  refine JO_call Tryz.call199 (vs := [ptr t12_7, .string y5, .int .i64 y6]) (mc rfl (mc rfl (mc rfl mn))) ((hP.spec H).mono ?_ (fun _ _ ⟨_, _, f⟩ => f.elim))
  rintro v Mp ⟨M, hP, r9, rfl, H⟩
  refine JO_nil ?_
  exact rb_nx (oR := oR_) (oD := oD_) (e := ⟨fun _ => undef, []⟩) fun hl_ => ⟨_, fun _ _ hb => hP.sub hb, hn_1 _ (sub_none (b := l_) (fun _ _ hb => hP.sub hb) hl_) H⟩
 ·
  rintro _ M (⟨hl_, H⟩ | ⟨c_, hl_, H⟩)
  ·
   refine .inl ⟨hl_, ?_⟩
   clear hl_ hP
   generalize M.del l_ = M at H ⊢
   have hP := Pv.nil M
   refine J_seq ?_
   refine J_region (by decide) ?_
   obtain ⟨t16_10, g11, H⟩ := H
   refine JO_load (p := a3_) (v := ptr t16_10) na_108 h3 (hP.cel g11) ?_
   refine JO_assign (v := ptr t16_10) rfl ?_
   refine JO_nil ?_
   exact J_ret (kret (pan := X)  hD (fun _ _ hb => hP.sub hb) (resOk (rs := [.tmp 2]) (vs := [ptr t16_10]) rfl ⟨item_tmp rfl, trivial⟩) ⟨t16_10, rfl, H⟩)
  ·
   exact H.elim

/-! (*brazier/disk.Disk).Create -/
def S126_1 (t0_ : Option PA) (t1_ : ByteArray) (t30_ : Bool) (K : Int → Mem → Prop) (X : List PanicEntry → Mem → Prop) : Mem → Prop :=
 ite' t30_ (K 2) (nn t0_ fun a11 => ldL a11 fun t35_13 => new (.cells #[Sl.v (⟨none, 0, 0⟩ : Sl), .int .i64 0] 135 (0, 0)) fun b15 => appS 135 2 32 [Sl.v (⟨none, 0, 0⟩ : Sl), .int .i64 0] t35_13 (⟨some (b15, 0), 1, 1⟩ : Sl) fun x16 => st a11 (Sl.v x16) <| ldL a11 fun t46_18 => call 121 [ptr t0_, .agg #[.string (⟨#[]⟩ : ByteArray), .string t1_, .int .i64 (IntKind.wrap .i64 ((t46_18.n : Int) - 1))]] X fun v_ M => ( K 0) M)
def S126 (t0 : Option PA) (t1 : ByteArray) (K : Int → Mem → Prop) (X : List PanicEntry → Mem → Prop) : Mem → Prop :=
 new (.cells #[.string t1] 9 (0, 0)) fun b1 => call 120 [ptr t0, .bool false, Sl.v (⟨some (b1, 0), 1, 1⟩ : Sl)] X fun v_ M => ∃ (r2 : Int), v_ = .int .i64 r2 ∧ ( ite' (r2 != 0) (K r2) (call 63 [ptr t0, .string t1] X fun v_ M => ∃ (r3_0 : Option PA) (r3_1 : Bool), v_ = .tuple #[ptr r3_0, .bool r3_1] ∧ ( ite' (!r3_1) (nn t0 fun a6 => ldP (a6.1, a6.2 + 1) fun t27_8 => call 204 [ptr t27_8] X fun v_ M => ∃ (r10 : Int), v_ = .int .i64 r10 ∧ ( S126_1 t0 t1 (decide (r10 ≥ 1024)) K X) M) (S126_1 t0 t1 false K X)) M)) M
abbrev F126_1 (K : Int → Mem → Prop) (X : List PanicEntry → Mem → Prop) (e : Env) (Mp : Mem) : Prop := ∃ (t0_ : Option PA) (t1_ : ByteArray) (t30_ : Bool) (M : Mem), e.D = [] ∧ e.v 0 = ptr t0_ ∧ e.v 1 = .string t1_ ∧ e.v 30 = .bool t30_ ∧ Pv M [] Mp ∧ S126_1 t0_ t1_ t30_ K X M
theorem br126 {t0 : Option PA} {t1 : ByteArray} {K : Int → Mem → Prop} {X : List PanicEntry → Mem → Prop} {M : Mem} (H : S126 t0 t1 K X M) :
  Spec Tryz.prog 126 #[ptr t0, .string t1] M (fun v_ M => ∃ (r0 : Int), v_ = .int .i64 r0 ∧ K r0 M) X := by
 refine spec_of_J (args := [ptr t0, .string t1]) Tryz.func126 rfl Tryz.ntmps126 (Nat.le_of_ble_eq_true rfl) ?_
 have hD : (⟨fun i => ([ptr t0, .string t1] : List Value).getD i undef, []⟩ : Env).D = [] := rfl
 have hP := Pv.nil M
 have hX := @kx_of Tryz.prog Tryz.f126 (fun v_ M => ∃ (r0 : Int), v_ = .int .i64 r0 ∧ K r0 M) X
 unfold S126 at H
 refine J_seq ?_
 refine J_region (by decide) ?_
 refine JO_assign (v := .int .i64 0) rfl ?_
 refine JO_nil ?_
 refine J_seq ?_
 refine J_seq ?_
 refine J_region (by decide) ?_
 refine JO_move (v := ptr t0) rfl ?_
 refine JO_move (v := .string t1) rfl ?_
 refine JO_bsl (vs := [(0, .string t1)]) (cs := [.string t1]) (c0 := [.string (⟨#[]⟩ : ByteArray)]) ul_36 sz_9 zc_9 (by kernel_rfl) (by decide) (by decide) (mpc rfl mpn) rfl ?_
 intro b1 hb
 replace H := H b1 (hP.out hb).1
 replace hP := hP.new hb (.cells #[.string t1] 9 (0, 0))
 refine JO_call Tryz.call120 (vs := [ptr t0, .bool false, Sl.v (⟨some (b1, 0), 1, 1⟩ : Sl)]) (mc rfl (mc rfl (mc rfl mn))) ((hP.spec H).mono ?_ (fun ch Mp h => hX hD h))
 rintro v Mp ⟨M, hP, r2, rfl, H⟩
 refine JO_assign (v := .int .i64 r2) rfl ?_
 refine JO_nil ?_
 refine J_seq ?_
 refine J_region (by decide) ?_
 refine JO_move (v := .int .i64 r2) rfl ?_
 refine JO_iop (op := .neq) (k := .i64) (a := r2) (b := 0) rfl rfl trivial ?_
 refine JO_nil ?_
 refine J_cond (t := r2 != 0) rfl (fun hc_ => ?_) (fun hc_ => ?_)
 ·
  replace H := H.1 hc_
  clear hc_
  refine J_seq ?_
  refine J_region (by decide) ?_
  refine JO_move (v := .int .i64 r2) rfl ?_
  refine JO_assign (v := .int .i64 r2) rfl ?_
  refine JO_nil ?_
  exact J_ret (kret (pan := X)  hD (fun _ _ hb => hP.sub hb) (resOk (rs := [.tmp 4]) (vs := [.int .i64 r2]) rfl ⟨item_tmp rfl, trivial⟩) ⟨r2, rfl, H⟩)
 ·
  replace H := H.2 hc_
  clear hc_
  refine J_skip ?_
  refine J_seq ?_
  refine J_seq ?_
  refine J_region (by decide) ?_
  refine JO_move (v := ptr t0) rfl ?_
  refine JO_move (v := .string t1) rfl ?_
  refine JO_call Tryz.call63 (vs := [ptr t0, .string t1]) (mc rfl (mc rfl mn)) ((hP.spec H).mono ?_ (fun ch Mp h => hX hD h))
  rintro v Mp ⟨M, hP, r3_0, r3_1, rfl, H⟩
  refine JO_move (v := .tuple #[ptr r3_0, .bool r3_1]) rfl ?_
  refine JO_extract (vs := #[ptr r3_0, .bool r3_1]) (v := ptr r3_0) rfl rfl ?_
  refine JO_extract (vs := #[ptr r3_0, .bool r3_1]) (v := .bool r3_1) rfl rfl ?_
  refine JO_assign (v := ptr r3_0) rfl ?_
  refine JO_assign (v := .bool r3_1) rfl ?_
  refine JO_nil ?_
  refine J_seq ?_
  refine J_region (by decide) ?_
  refine JO_move (v := .bool r3_1) rfl ?_
  refine JO_not (b := r3_1) rfl ?_
  refine JO_move (v := .bool (!r3_1)) rfl ?_
  refine JO_cut 7 (F126_1 K X) ?_ ?_
  ·
   obtain ⟨H1, H2⟩ := H
   obtain hc_ | hc_ := ff_or_tt (!r3_1)
   ·
    replace H := H2 hc_
    clear H1 H2
    have hg4 := (congrArg Value.bool hc_ : Value.bool (!r3_1) = Value.bool false)
    refine JO_off (s := 23) (c := false) hg4 (by decide) ?_
    refine JO_off (s := 23) (c := false) hg4 (by decide) ?_
    refine JO_off (s := 23) (c := false) hg4 (by decide) ?_
    refine JO_off (s := 23) (c := false) hg4 (by decide) ?_
    refine JO_off (s := 23) (c := false) hg4 (by decide) ?_
    refine JO_off (s := 23) (c := false) hg4 (by decide) ?_
    refine JO_pick (b := false) (v := .bool false) hg4 rfl ?_
    refine JO_nil ?_
    exact (show F126_1 K X _ _ from ⟨t0, t1, false, _, hD, rfl, rfl, rfl, hP, H⟩)
   ·
    replace H := H1 hc_
    clear H1 H2
    have hg5 := (congrArg Value.bool hc_ : Value.bool (!r3_1) = Value.bool true)
    refine JO_on (s := 23) hg5 ?_
    refine JO_move (v := ptr t0) rfl ?_
    refine JO_on (s := 23) hg5 ?_
    obtain ⟨a6, g7, H⟩ := H
    refine JO_nilCheck (p := a6) (tr1 (rfl : _ = ptr t0) (congrArg ptr g7)) ?_
    refine JO_on (s := 23) hg5 ?_
    refine JO_fieldAddr (p := a6) fo_115_1 rfl ?_
    refine JO_on (s := 23) hg5 ?_
    obtain ⟨t27_8, g9, H⟩ := H
    refine JO_load (p := (a6.1, a6.2 + 1)) (v := ptr t27_8) na_108 rfl (hP.cel g9) ?_
    refine JO_on (s := 23) hg5 ?_
    refine JO_call Tryz.call204 (vs := [ptr t27_8]) (mc rfl mn) ((hP.spec H).mono ?_ (fun ch Mp h => hX hD h))
    rintro v Mp ⟨M, hP, r10, rfl, H⟩
    refine JO_on (s := 23) hg5 ?_
    refine JO_iop (op := .geq) (k := .i64) (a := r10) (b := 1024) rfl rfl trivial ?_
    refine JO_pick (b := true) (v := .bool (decide (r10 ≥ 1024))) hg5 rfl ?_
    refine JO_nil ?_
    exact (show F126_1 K X _ _ from ⟨t0, t1, decide (r10 ≥ 1024), _, hD, rfl, rfl, rfl, hP, H⟩)
  ·
   rintro e Mp ⟨t0_, t1_, t30_, M, hD, h0, h1, h30, hP, H⟩
   unfold S126_1 at H
   refine JO_nil ?_
   refine J_cond (t := t30_) h30 (fun hc_ => ?_) (fun hc_ => ?_)
   ·
    replace H := H.1 hc_
    clear hc_
    refine J_seq ?_
    refine J_region (by decide) ?_
    refine JO_assign (v := .int .i64 2) rfl ?_
    refine JO_nil ?_
    exact J_ret (kret (pan := X)  hD (fun _ _ hb => hP.sub hb) (resOk (rs := [.tmp 4]) (vs := [.int .i64 2]) rfl ⟨item_tmp rfl, trivial⟩) ⟨2, rfl, H⟩)
   ·
    replace H := H.2 hc_
    clear hc_
    refine J_skip ?_
    refine J_seq ?_
    refine J_region (by decide) ?_
    refine JO_move (v := ptr t0_) h0 ?_
    refine JO_move (v := ptr t0_) h0 ?_
    obtain ⟨a11, g12, H⟩ := H
    refine JO_nilCheck (p := a11) (tr1 (rfl : _ = ptr t0_) (congrArg ptr g12)) ?_
    refine JO_fieldAddr (p := a11) fo_115_0 rfl ?_
    obtain ⟨t35_13, g14, H⟩ := H
    refine JO_load (p := a11) (v := Sl.v t35_13) na_112 rfl (hP.cel g14) ?_
    refine JO_bld (vs := []) (cs := [Sl.v (⟨none, 0, 0⟩ : Sl), .int .i64 0]) pl_135 zc_135 mpn rfl ?_
    refine JO_bsl (vs := [(0, .agg #[Sl.v (⟨none, 0, 0⟩ : Sl), .int .i64 0])]) (cs := [Sl.v (⟨none, 0, 0⟩ : Sl), .int .i64 0]) (c0 := [Sl.v (⟨none, 0, 0⟩ : Sl), .int .i64 0]) ul_112 sz_135 zc_135 (by kernel_rfl) (by decide) (by decide) (mpc rfl mpn) rfl ?_
    intro b15 hb
    replace H := H b15 (hP.out hb).1
    replace hP := hP.new hb (.cells #[Sl.v (⟨none, 0, 0⟩ : Sl), .int .i64 0] 135 (0, 0))
    refine JO_loud ((hP.opJ (OpJ_app (s := t35_13) (z := (⟨some (b15, 0), 1, 1⟩ : Sl)) ul_112 sb_135 zc_135 rfl rfl H)).mono (fun _ _ h => h) (fun _ _ ⟨_, _, f⟩ => f.elim)) ?_
    rintro _ Mp ⟨M, hP, x16, rfl, H⟩
    refine JO_nilCheck (p := a11) (tr1 (rfl : _ = ptr t0_) (congrArg ptr g12)) ?_
    refine JO_fieldAddr (p := a11) fo_115_0 rfl ?_
    obtain ⟨g17, H⟩ := H
    refine JO_store (p := a11) (v := Sl.v x16) sz_112 rfl rfl rfl (hP.wr g17) ?_
    replace hP := hP.sto g17 (Sl.v x16)
    refine JO_nil ?_
    refine J_seq ?_
    refine J_region (by decide) ?_
    refine JO_move (v := ptr t0_) h0 ?_
    refine JO_move (v := .string t1_) h1 ?_
    refine JO_move (v := ptr t0_) h0 ?_
    refine JO_nilCheck (p := a11) (tr1 (rfl : _ = ptr t0_) (congrArg ptr g12)) ?_
    refine JO_fieldAddr (p := a11) fo_115_0 rfl ?_
    obtain ⟨t46_18, g19, H⟩ := H
    refine JO_load (p := a11) (v := Sl.v t46_18) na_112 rfl (hP.cel g19) ?_
    refine JO_len (s := t46_18) is_112 rfl ?_
    refine JO_iop (op := .sub) (k := .i64) (a := (t46_18.n : Int)) (b := 1) rfl rfl trivial ?_
    refine JO_bld (vs := [(1, .string t1_), (2, .int .i64 (IntKind.wrap .i64 ((t46_18.n : Int) - 1)))]) (cs := [.string (⟨#[]⟩ : ByteArray), .string t1_, .int .i64 (IntKind.wrap .i64 ((t46_18.n : Int) - 1))]) pl_221 zc_221 (mpc rfl (mpc rfl mpn)) rfl ?_
    refine JO_call Tryz.call121 (vs := [ptr t0_, .agg #[.string (⟨#[]⟩ : ByteArray), .string t1_, .int .i64 (IntKind.wrap .i64 ((t46_18.n : Int) - 1))]]) (mc rfl (mc rfl mn)) ((hP.spec H).mono ?_ (fun ch Mp h => hX hD h))
    rintro rv_ Mp ⟨M, hP, H⟩
    refine JO_nil ?_
    refine J_seq ?_
    refine J_region (by decide) ?_
    refine JO_assign (v := .int .i64 0) rfl ?_
    refine JO_nil ?_
    exact J_ret (kret (pan := X)  hD (fun _ _ hb => hP.sub hb) (resOk (rs := [.tmp 4]) (vs := [.int .i64 0]) rfl ⟨item_tmp rfl, trivial⟩) ⟨0, rfl, H⟩)

/-! (*brazier/sets.Row[string, int]).Get -/
def S130_1 (t4_ : Int) (t5_ : Bool) (K : Int → Bool → Mem → Prop) (X : List PanicEntry → Mem → Prop) : Mem → Prop :=
 K t4_ t5_
def S130 (t0 : Option PA) (t1 : ByteArray) (K : Int → Bool → Mem → Prop) (X : List PanicEntry → Mem → Prop) : Mem → Prop :=
 call 206 [ptr t0, .string t1] X fun v_ M => ∃ (r1_0 : Int) (r1_1 : Bool), v_ = .tuple #[.int .i64 r1_0, .bool r1_1] ∧ ( ite' r1_1 (nn t0 fun a2 => ldL (a2.1, a2.2 + 1) fun t17_4 => ix t17_4 1 r1_0 fun p10 => ldI .i64 p10 fun t20_11 => S130_1 t20_11 r1_1 K X) (S130_1 0 r1_1 K X)) M
abbrev F130_1 (K : Int → Bool → Mem → Prop) (X : List PanicEntry → Mem → Prop) (e : Env) (Mp : Mem) : Prop := ∃ (t4_ : Int) (t5_ : Bool) (M : Mem), e.D = [] ∧ e.v 4 = .int .i64 t4_ ∧ e.v 5 = .bool t5_ ∧ Pv M [] Mp ∧ S130_1 t4_ t5_ K X M
theorem br130 {t0 : Option PA} {t1 : ByteArray} {K : Int → Bool → Mem → Prop} {X : List PanicEntry → Mem → Prop} {M : Mem} (H : S130 t0 t1 K X M) :
  Spec Tryz.prog 130 #[ptr t0, .string t1] M (fun v_ M => ∃ (r0 : Int) (r1 : Bool), v_ = .tuple #[.int .i64 r0, .bool r1] ∧ K r0 r1 M) X := by
 refine spec_of_J (args := [ptr t0, .string t1]) Tryz.func130 rfl Tryz.ntmps130 (Nat.le_of_ble_eq_true rfl) ?_
 have hD : (⟨fun i => ([ptr t0, .string t1] : List Value).getD i undef, []⟩ : Env).D = [] := rfl
 have hP := Pv.nil M
 have hX := @kx_of Tryz.prog Tryz.f130 (fun v_ M => ∃ (r0 : Int) (r1 : Bool), v_ = .tuple #[.int .i64 r0, .bool r1] ∧ K r0 r1 M) X
 unfold S130 at H
 refine J_seq ?_
 refine J_region (by decide) ?_
 refine JO_assign (v := .int .i64 0) rfl ?_
 refine JO_assign (v := .bool false) rfl ?_
 refine JO_nil ?_
 refine J_seq ?_
 refine J_region (by decide) ?_
 refine JO_move (v := ptr t0) rfl ?_
 refine JO_move (v := .string t1) rfl ?_
 refine JO_call Tryz.call206 (vs := [ptr t0, .string t1]) (mc rfl (mc rfl mn)) ((hP.spec H).mono ?_ (fun ch Mp h => hX hD h))
 rintro v Mp ⟨M, hP, r1_0, r1_1, rfl, H⟩
 refine JO_move (v := .tuple #[.int .i64 r1_0, .bool r1_1]) rfl ?_
 refine JO_extract (vs := #[.int .i64 r1_0, .bool r1_1]) (v := .int .i64 r1_0) rfl rfl ?_
 refine JO_extract (vs := #[.int .i64 r1_0, .bool r1_1]) (v := .bool r1_1) rfl rfl ?_
 refine JO_assign (v := .int .i64 r1_0) rfl ?_
 refine JO_assign (v := .bool r1_1) rfl ?_
 refine JO_nil ?_
 refine J_seqF (F130_1 K X) ?_ ?_
 ·
  refine J_seq ?_
  refine J_region (by decide) ?_
  refine JO_move (v := .bool r1_1) rfl ?_
  refine JO_nil ?_
  refine J_cond (t := r1_1) rfl (fun hc_ => ?_) (fun hc_ => ?_)
  ·
   replace H := H.1 hc_
   clear hc_
   refine J_region (by decide) ?_
   refine JO_move (v := ptr t0) rfl ?_
   obtain ⟨a2, g3, H⟩ := H
   refine JO_nilCheck (p := a2) (tr1 (rfl : _ = ptr t0) (congrArg ptr g3)) ?_
   refine JO_fieldAddr (p := a2) fo_111_1 rfl ?_
   obtain ⟨t17_4, g5, H⟩ := H
   refine JO_load (p := (a2.1, a2.2 + 1)) (v := Sl.v t17_4) na_109 rfl (hP.cel g5) ?_
   refine JO_move (v := .int .i64 r1_0) rfl ?_
   obtain ⟨a6, g7, g8, g9, H⟩ := H
   refine JO_indexAddr (s := t17_4) (p := a6) (i := r1_0) es_109 rfl rfl g7 g8 g9 ?_
   obtain ⟨p10, hq_⟩ : ∃ q : PA, q = (a6.1, a6.2 + (r1_0 : Int).toNat * 1) := ⟨_, rfl⟩; rw [← hq_] at H ⊢; clear hq_
   obtain ⟨t20_11, g12, H⟩ := H
   refine JO_load (p := p10) (v := .int .i64 t20_11) na_3 rfl (hP.cel g12) ?_
   refine JO_assign (v := .int .i64 t20_11) rfl ?_
   refine JO_nil ?_
   exact (show F130_1 K X _ _ from ⟨t20_11, r1_1, _, hD, rfl, rfl, hP, H⟩)
  ·
   replace H := H.2 hc_
   clear hc_
   refine J_skip ?_
   exact (show F130_1 K X _ _ from ⟨0, r1_1, _, hD, rfl, rfl, hP, H⟩)
 ·
  rintro e Mp ⟨t4_, t5_, M, hD, h4, h5, hP, H⟩
  unfold S130_1 at H
  refine J_seq ?_
  refine J_region (by decide) ?_
  refine JO_move (v := .int .i64 t4_) h4 ?_
  refine JO_move (v := .bool t5_) h5 ?_
  refine JO_assign (v := .int .i64 t4_) rfl ?_
  refine JO_assign (v := .bool t5_) rfl ?_
  refine JO_nil ?_
  exact J_ret (kret (pan := X)  hD (fun _ _ hb => hP.sub hb) (resOk (rs := [.tmp 4, .tmp 5]) (vs := [.int .i64 t4_, .bool t5_]) rfl ⟨item_tmp rfl, item_tmp rfl, trivial⟩) ⟨t4_, t5_, rfl, H⟩)

/-! (*brazier/sets.Row[string, int]).Each$1 -/
def S194 (K : Int → Mem → Prop) (X : List PanicEntry → Mem → Prop) : Mem → Prop :=
 K 0
theorem br194 {K : Int → Mem → Prop} {X : List PanicEntry → Mem → Prop} {M : Mem} (H : S194  K X M) :
  Spec Tryz.prog 194 #[] M (fun v_ M => ∃ (r0 : Int), v_ = .int .i64 r0 ∧ K r0 M) X := by
 refine spec_of_J (args := []) Tryz.func194 rfl Tryz.ntmps194 (Nat.le_of_ble_eq_true rfl) ?_
 have hD : (⟨fun i => ([] : List Value).getD i undef, []⟩ : Env).D = [] := rfl
 have hP := Pv.nil M
 have hX := @kx_of Tryz.prog Tryz.f194 (fun v_ M => ∃ (r0 : Int), v_ = .int .i64 r0 ∧ K r0 M) X
 unfold S194 at H
 refine J_seq ?_
 refine J_region (by decide) ?_
 refine JO_assign (v := .int .i64 0) rfl ?_
 refine JO_nil ?_
 refine J_seq ?_
 refine J_region (by decide) ?_
 refine JO_assign (v := .int .i64 0) rfl ?_
 refine JO_nil ?_
 exact J_ret (kret (pan := X)  hD (fun _ _ hb => hP.sub hb) (resOk (rs := [.tmp 0]) (vs := [.int .i64 0]) rfl ⟨item_tmp rfl, trivial⟩) ⟨0, rfl, H⟩)

/-! brazier/disk.apply -/
def S198_1 (t0_ : Option PA) (b3_c0 : ByteArray) (b3_c1 : ByteArray) (b3_c2 : Int) (K : Mem → Prop) (X : List PanicEntry → Mem → Prop) : Mem → Prop :=
 ite' (!seq b3_c1 (⟨#[]⟩ : ByteArray)) (call 199 [ptr t0_, .string b3_c1, .int .i64 b3_c2] X fun v_ M => ∃ (r3 : Bool), v_ = .bool r3 ∧ ( K) M) (K)
def S198 (t0 : Option PA) (t1_0 : ByteArray) (t1_1 : ByteArray) (t1_2 : Int) (K : Mem → Prop) (X : List PanicEntry → Mem → Prop) : Mem → Prop :=
 ite' (!seq t1_0 (⟨#[]⟩ : ByteArray)) (call 279 [ptr t0, .string t1_0] X fun v_ M => ∃ (r2 : Bool), v_ = .bool r2 ∧ ( S198_1 t0 t1_0 t1_1 t1_2 K X) M) (S198_1 t0 t1_0 t1_1 t1_2 K X)
abbrev F198_1 (K : Mem → Prop) (X : List PanicEntry → Mem → Prop) (e : Env) (Mp : Mem) : Prop := ∃ (t0_ : Option PA) (b3_ : Nat) (b3_c0 : ByteArray) (b3_c1 : ByteArray) (b3_c2 : Int) (M : Mem), e.D = [] ∧ e.v 0 = ptr t0_ ∧ e.v 3 = ptr (some (b3_, 0)) ∧ Pv M [(b3_, .cells #[.string b3_c0, .string b3_c1, .int .i64 b3_c2] 221 (0, 0))] Mp ∧ S198_1 t0_ b3_c0 b3_c1 b3_c2 K X M
theorem br198 {t0 : Option PA} {t1_0 : ByteArray} {t1_1 : ByteArray} {t1_2 : Int} {K : Mem → Prop} {X : List PanicEntry → Mem → Prop} {M : Mem} (H : S198 t0 t1_0 t1_1 t1_2 K X M) :
  Spec Tryz.prog 198 #[ptr t0, .agg #[.string t1_0, .string t1_1, .int .i64 t1_2]] M (fun _ M => K M) X := by
 refine spec_of_J (args := [ptr t0, .agg #[.string t1_0, .string t1_1, .int .i64 t1_2]]) Tryz.func198 rfl Tryz.ntmps198 (Nat.le_of_ble_eq_true rfl) ?_
 have hD : (⟨fun i => ([ptr t0, .agg #[.string t1_0, .string t1_1, .int .i64 t1_2]] : List Value).getD i undef, []⟩ : Env).D = [] := rfl
 have hP := Pv.nil M
 have hX := @kx_of Tryz.prog Tryz.f198 (fun _ M => K M) X
 unfold S198 at H
 refine J_seq ?_
 refine J_region (by decide) ?_
 refine JO_box (v := .agg #[.string t1_0, .string t1_1, .int .i64 t1_2]) rfl ?_
 intro b1 hb
 replace hP : Pv _ [(b1, .cells #[.string t1_0, .string t1_1, .int .i64 t1_2] 221 (0, 0))] _ := hP.box hb _
 refine JO_nil ?_
 refine J_seqF (F198_1 K X) ?_ ?_
 ·
  refine J_seq ?_
  refine J_region (by decide) ?_
  refine JO_fieldAddr (p := (b1, 0)) fo_221_0 rfl ?_
  refine JO_load (p := (b1, 0)) (v := .string t1_0) na_9 rfl (celOf (hP.get 0 rfl) rfl) ?_
  refine JO_scmp (op := .neq) (a := t1_0) (b := (⟨#[]⟩ : ByteArray)) (v := .bool (!seq t1_0 (⟨#[]⟩ : ByteArray))) rfl rfl rfl ?_
  refine JO_nil ?_
  refine J_cond (t := !seq t1_0 (⟨#[]⟩ : ByteArray)) rfl (fun hc_ => ?_) (fun hc_ => ?_)
  ·
   replace H := H.1 hc_
   clear hc_
   refine J_region (by decide) ?_
   refine JO_move (v := ptr t0) rfl ?_
   refine JO_fieldAddr (p := (b1, 0)) fo_221_0 rfl ?_
   refine JO_load (p := (b1, 0)) (v := .string t1_0) na_9 rfl (celOf (hP.get 0 rfl) rfl) ?_
   refine JO_call Tryz.call279 (vs := [ptr t0, .string t1_0]) (mc rfl (mc rfl mn)) ((hP.spec H).mono ?_ (fun ch Mp h => hX hD h))
   rintro v Mp ⟨M, hP, r2, rfl, H⟩
   refine JO_nil ?_
   exact (show F198_1 K X _ _ from ⟨t0, b1, t1_0, t1_1, t1_2, _, hD, rfl, rfl, hP, H⟩)
  ·
   replace H := H.2 hc_
   clear hc_
   refine J_skip ?_
   exact (show F198_1 K X _ _ from ⟨t0, b1, t1_0, t1_1, t1_2, _, hD, rfl, rfl, hP, H⟩)
 ·
  rintro e Mp ⟨t0_, b3_, b3_c0, b3_c1, b3_c2, M, hD, h0, h3, hP, H⟩
  unfold S198_1 at H
  refine J_seq ?_
  refine J_region (by decide) ?_
  refine JO_fieldAddr (p := (b3_, 0)) fo_221_1 h3 ?_
  refine JO_load (p := (b3_, 1)) (v := .string b3_c1) na_9 rfl (celOf (hP.get 0 rfl) rfl) ?_
  refine JO_scmp (op := .neq) (a := b3_c1) (b := (⟨#[]⟩ : ByteArray)) (v := .bool (!seq b3_c1 (⟨#[]⟩ : ByteArray))) rfl rfl rfl ?_
  refine JO_nil ?_
  refine J_cond (t := !seq b3_c1 (⟨#[]⟩ : ByteArray)) rfl (fun hc_ => ?_) (fun hc_ => ?_)
  ·
   replace H := H.1 hc_
   clear hc_
   refine J_region (by decide) ?_
   refine JO_move (v := ptr t0_) h0 ?_
   refine JO_fieldAddr (p := (b3_, 0)) fo_221_1 h3 ?_
   refine JO_load (p := (b3_, 1)) (v := .string b3_c1) na_9 rfl (celOf (hP.get 0 rfl) rfl) ?_
   refine JO_fieldAddr (p := (b3_, 0)) fo_221_2 h3 ?_
   refine JO_load (p := (b3_, 2)) (v := .int .i64 b3_c2) na_3 rfl (celOf (hP.get 0 rfl) rfl) ?_
   refine JO_call Tryz.call199 (vs := [ptr t0_, .string b3_c1, .int .i64 b3_c2]) (mc rfl (mc rfl (mc rfl mn))) ((hP.spec H).mono ?_ (fun ch Mp h => hX hD h))
   rintro v Mp ⟨M, hP, r3, rfl, H⟩
   refine JO_nil ?_
   exact (kend (pan := X)  hD (fun _ _ hb => hP.sub hb) (resOk (rs := []) (vs := []) rfl trivial) H)
  ·
   replace H := H.2 hc_
   clear hc_
   refine J_skip ?_
   exact (kend (pan := X)  hD (fun _ _ hb => hP.sub hb) (resOk (rs := []) (vs := []) rfl trivial) H)

/-! slices.Grow[[]byte,byte] -/
def S202_2 (t0_ : Sl) (K : Sl → Mem → Prop) (X : List PanicEntry → Mem → Prop) : Mem → Prop :=
 K t0_
def S202_1 (t0_ : Sl) (t1_ : Int) (K : Sl → Mem → Prop) (X : List PanicEntry → Mem → Prop) : Mem → Prop :=
 ite' (decide ((IntKind.wrap .i64 (t1_ - (IntKind.wrap .i64 ((t0_.c : Int) - (t0_.n : Int))))) > 0)) (must (0 ≤ (0 : Int) ∧ (0 : Int) ≤ (t0_.c : Int) ∧ (t0_.c : Int) ≤ (t0_.c : Int) ∧ (t0_.c : Int) ≤ (t0_.c : Int)) <| appZ 5 1 1 [.int .u8 0] (Sl.cut t0_ 1 (0 : Int) (t0_.c : Int) (t0_.c : Int)) (IntKind.wrap .i64 (t1_ - (IntKind.wrap .i64 ((t0_.c : Int) - (t0_.n : Int))))) fun x2 => must (0 ≤ (0 : Int) ∧ (0 : Int) ≤ (t0_.n : Int) ∧ (t0_.n : Int) ≤ (x2.c : Int) ∧ (x2.c : Int) ≤ (x2.c : Int)) <| S202_2 (Sl.cut x2 1 (0 : Int) (t0_.n : Int) (x2.c : Int)) K X) (S202_2 t0_ K X)
def S202 (t0 : Sl) (t1 : Int) (K : Sl → Mem → Prop) (X : List PanicEntry → Mem → Prop) : Mem → Prop :=
 ite' (decide (t1 < 0)) (no) (S202_1 t0 t1 K X)
abbrev F202_2 (K : Sl → Mem → Prop) (X : List PanicEntry → Mem → Prop) (e : Env) (Mp : Mem) : Prop := ∃ (t0_ : Sl) (M : Mem), e.D = [] ∧ e.v 0 = Sl.v t0_ ∧ Pv M [] Mp ∧ S202_2 t0_ K X M
abbrev F202_1 (K : Sl → Mem → Prop) (X : List PanicEntry → Mem → Prop) (e : Env) (Mp : Mem) : Prop := ∃ (t0_ : Sl) (t1_ : Int) (M : Mem), e.D = [] ∧ e.v 0 = Sl.v t0_ ∧ e.v 1 = .int .i64 t1_ ∧ Pv M [] Mp ∧ S202_1 t0_ t1_ K X M
theorem br202 {t0 : Sl} {t1 : Int} {K : Sl → Mem → Prop} {X : List PanicEntry → Mem → Prop} {M : Mem} (H : S202 t0 t1 K X M) :
  Spec Tryz.prog 202 #[Sl.v t0, .int .i64 t1] M (fun v_ M => ∃ (r0 : Sl), v_ = Sl.v r0 ∧ K r0 M) X := by
 refine spec_of_J (args := [Sl.v t0, .int .i64 t1]) Tryz.func202 rfl Tryz.ntmps202 (Nat.le_of_ble_eq_true rfl) ?_
 have hD : (⟨fun i => ([Sl.v t0, .int .i64 t1] : List Value).getD i undef, []⟩ : Env).D = [] := rfl
 have hP := Pv.nil M
 have hX := @kx_of Tryz.prog Tryz.f202 (fun v_ M => ∃ (r0 : Sl), v_ = Sl.v r0 ∧ K r0 M) X
 unfold S202 at H
 refine J_seq ?_
 refine J_region (by decide) ?_
 refine JO_assign (v := Sl.v (⟨none, 0, 0⟩ : Sl)) rfl ?_
 refine JO_nil ?_
 refine J_seqF (F202_1 K X) ?_ ?_
 ·
  refine J_seq ?_
  refine J_region (by decide) ?_
  refine JO_move (v := .int .i64 t1) rfl ?_
  refine JO_iop (op := .lss) (k := .i64) (a := t1) (b := 0) rfl rfl trivial ?_
  refine JO_nil ?_
  refine J_cond (t := decide (t1 < 0)) rfl (fun hc_ => ?_) (fun hc_ => ?_)
  ·
   replace H := H.1 hc_
   clear hc_
   refine J_region (by decide) ?_
   exact H.elim
  ·
   replace H := H.2 hc_
   clear hc_
   refine J_skip ?_
   exact (show F202_1 K X _ _ from ⟨t0, t1, _, hD, rfl, rfl, hP, H⟩)
 ·
  rintro e Mp ⟨t0_, t1_, M, hD, h0, h1, hP, H⟩
  unfold S202_1 at H
  refine J_seqF (F202_2 K X) ?_ ?_
  ·
   refine J_seq ?_
   refine J_region (by decide) ?_
   refine JO_move (v := .int .i64 t1_) h1 ?_
   refine JO_move (v := Sl.v t0_) h0 ?_
   refine JO_cap (s := t0_) is_32 rfl ?_
   refine JO_move (v := Sl.v t0_) h0 ?_
   refine JO_len (s := t0_) is_32 rfl ?_
   refine JO_iop (op := .sub) (k := .i64) (a := (t0_.c : Int)) (b := (t0_.n : Int)) rfl rfl trivial ?_
   refine JO_iop (op := .sub) (k := .i64) (a := t1_) (b := IntKind.wrap .i64 ((t0_.c : Int) - (t0_.n : Int))) rfl rfl trivial ?_
   refine JO_assign (v := .int .i64 (IntKind.wrap .i64 (t1_ - (IntKind.wrap .i64 ((t0_.c : Int) - (t0_.n : Int)))))) rfl ?_
   refine JO_nil ?_
   refine J_seq ?_
   refine J_region (by decide) ?_
   refine JO_move (v := .int .i64 (IntKind.wrap .i64 (t1_ - (IntKind.wrap .i64 ((t0_.c : Int) - (t0_.n : Int)))))) rfl ?_
   refine JO_iop (op := .gtr) (k := .i64) (a := IntKind.wrap .i64 (t1_ - (IntKind.wrap .i64 ((t0_.c : Int) - (t0_.n : Int))))) (b := 0) rfl rfl trivial ?_
   refine JO_nil ?_
   refine J_cond (t := decide ((IntKind.wrap .i64 (t1_ - (IntKind.wrap .i64 ((t0_.c : Int) - (t0_.n : Int))))) > 0)) rfl (fun hc_ => ?_) (fun hc_ => ?_)
   ·
    replace H := H.1 hc_
    clear hc_
    refine J_region (by decide) ?_
    refine JO_move (v := Sl.v t0_) h0 ?_
    refine JO_move (v := Sl.v t0_) h0 ?_
    refine JO_cap (s := t0_) is_32 rfl ?_
    obtain ⟨g1, H⟩ := H
    refine JO_slice (s := t0_) (l := (0 : Int)) (h := (t0_.c : Int)) (m := (t0_.c : Int)) es_32 rfl rfl ⟨_, rfl⟩ rfl g1.1 g1.2.1 (fun _ => g1.2.2.1) g1.2.2.2 (by simp) ?_
    refine JO_move (v := .int .i64 (IntKind.wrap .i64 (t1_ - (IntKind.wrap .i64 ((t0_.c : Int) - (t0_.n : Int)))))) rfl ?_
    refine JO_loud ((hP.opJ (OpJ_appZ (s := Sl.cut t0_ 1 (0 : Int) (t0_.c : Int) (t0_.c : Int)) (n := IntKind.wrap .i64 (t1_ - (IntKind.wrap .i64 ((t0_.c : Int) - (t0_.n : Int))))) ul_32 ul_3 sb_5 zc_5 rfl rfl H)).mono (fun _ _ h => h) (fun _ _ ⟨_, _, f⟩ => f.elim)) ?_
    rintro _ Mp ⟨M, hP, x2, rfl, H⟩
    refine JO_move (v := Sl.v t0_) h0 ?_
    refine JO_len (s := t0_) is_32 rfl ?_
    obtain ⟨g3, H⟩ := H
    refine JO_slice (s := x2) (l := (0 : Int)) (h := (t0_.n : Int)) (m := (x2.c : Int)) es_32 rfl rfl ⟨_, rfl⟩ rfl g3.1 g3.2.1 (fun _ => g3.2.2.1) g3.2.2.2 (by simp) ?_
    refine JO_assign (v := Sl.v (Sl.cut x2 1 (0 : Int) (t0_.n : Int) (x2.c : Int))) rfl ?_
    refine JO_nil ?_
    exact (show F202_2 K X _ _ from ⟨Sl.cut x2 1 (0 : Int) (t0_.n : Int) (x2.c : Int), _, hD, rfl, hP, H⟩)
   ·
    replace H := H.2 hc_
    clear hc_
    refine J_skip ?_
    exact (show F202_2 K X _ _ from ⟨t0_, _, hD, h0, hP, H⟩)
  ·
   rintro e Mp ⟨t0_, M, hD, h0, hP, H⟩
   unfold S202_2 at H
   refine J_seq ?_
   refine J_region (by decide) ?_
   refine JO_move (v := Sl.v t0_) h0 ?_
   refine JO_assign (v := Sl.v t0_) rfl ?_
   refine JO_nil ?_
   exact J_ret (kret (pan := X)  hD (fun _ _ hb => hP.sub hb) (resOk (rs := [.tmp 4]) (vs := [Sl.v t0_]) rfl ⟨item_tmp rfl, trivial⟩) ⟨t0_, rfl, H⟩)

/-! (*brazier/sets.Row[string, int]).find -/
def S206 (t0 : Option PA) (t1 : ByteArray) (K : Int → Bool → Mem → Prop) (X : List PanicEntry → Mem → Prop) : Mem → Prop :=
 ite' t0.isNone (K 0 false) (nn t0 fun a1 => ldL a1 fun t11_3 => call 283 [Sl.v t11_3, .string t1] X fun v_ M => ∃ (r5_0 : Int) (r5_1 : Bool), v_ = .tuple #[.int .i64 r5_0, .bool r5_1] ∧ ( K r5_0 r5_1) M)
theorem br206 {t0 : Option PA} {t1 : ByteArray} {K : Int → Bool → Mem → Prop} {X : List PanicEntry → Mem → Prop} {M : Mem} (H : S206 t0 t1 K X M) :
  Spec Tryz.prog 206 #[ptr t0, .string t1] M (fun v_ M => ∃ (r0 : Int) (r1 : Bool), v_ = .tuple #[.int .i64 r0, .bool r1] ∧ K r0 r1 M) X := by
 refine spec_of_J (args := [ptr t0, .string t1]) Tryz.func206 rfl Tryz.ntmps206 (Nat.le_of_ble_eq_true rfl) ?_
 have hD : (⟨fun i => ([ptr t0, .string t1] : List Value).getD i undef, []⟩ : Env).D = [] := rfl
 have hP := Pv.nil M
 have hX := @kx_of Tryz.prog Tryz.f206 (fun v_ M => ∃ (r0 : Int) (r1 : Bool), v_ = .tuple #[.int .i64 r0, .bool r1] ∧ K r0 r1 M) X
 unfold S206 at H
 refine J_seq ?_
 refine J_region (by decide) ?_
 refine JO_assign (v := .int .i64 0) rfl ?_
 refine JO_assign (v := .bool false) rfl ?_
 refine JO_nil ?_
 refine J_seq ?_
 refine J_seq ?_
 refine J_region (by decide) ?_
 refine JO_move (v := ptr t0) rfl ?_
 refine JO_eqlNil (p := t0) ip_108 rfl rfl ?_
 refine JO_nil ?_
 refine J_cond (t := t0.isNone) rfl (fun hc_ => ?_) (fun hc_ => ?_)
 ·
  replace H := H.1 hc_
  clear hc_
  refine J_seq ?_
  refine J_region (by decide) ?_
  refine JO_assign (v := .int .i64 0) rfl ?_
  refine JO_assign (v := .bool false) rfl ?_
  refine JO_nil ?_
  exact J_ret (kret (pan := X)  hD (fun _ _ hb => hP.sub hb) (resOk (rs := [.tmp 4, .tmp 5]) (vs := [.int .i64 0, .bool false]) rfl ⟨item_tmp rfl, item_tmp rfl, trivial⟩) ⟨0, false, rfl, H⟩)
 ·
  replace H := H.2 hc_
  clear hc_
  refine J_skip ?_
  refine J_seq ?_
  refine J_region (by decide) ?_
  refine JO_move (v := ptr t0) rfl ?_
  obtain ⟨a1, g2, H⟩ := H
  refine JO_nilCheck (p := a1) (tr1 (rfl : _ = ptr t0) (congrArg ptr g2)) ?_
  refine JO_fieldAddr (p := a1) fo_111_0 rfl ?_
  obtain ⟨t11_3, g4, H⟩ := H
  refine JO_load (p := a1) (v := Sl.v t11_3) na_36 rfl (hP.cel g4) ?_
  refine JO_move (v := .string t1) rfl ?_
  refine JO_call Tryz.call283 (vs := [Sl.v t11_3, .string t1]) (mc rfl (mc rfl mn)) ((hP.spec H).mono ?_ (fun ch Mp h => hX hD h))
  rintro v Mp ⟨M, hP, r5_0, r5_1, rfl, H⟩
  refine JO_extract (vs := #[.int .i64 r5_0, .bool r5_1]) (v := .int .i64 r5_0) rfl rfl ?_
  refine JO_extract (vs := #[.int .i64 r5_0, .bool r5_1]) (v := .bool r5_1) rfl rfl ?_
  refine JO_assign (v := .int .i64 r5_0) rfl ?_
  refine JO_assign (v := .bool r5_1) rfl ?_
  refine JO_nil ?_
  exact J_ret (kret (pan := X)  hD (fun _ _ hb => hP.sub hb) (resOk (rs := [.tmp 4, .tmp 5]) (vs := [.int .i64 r5_0, .bool r5_1]) rfl ⟨item_tmp rfl, item_tmp rfl, trivial⟩) ⟨r5_0, r5_1, rfl, H⟩)

/-! slices.Clone[[]int,int] -/
def S276 (t0 : Sl) (K : Sl → Mem → Prop) (X : List PanicEntry → Mem → Prop) : Mem → Prop :=
 ite' t0.a.isNone (K (⟨none, 0, 0⟩ : Sl)) (new (.cells #[] 3 (0, 0)) fun b1 => appS 3 1 8 [.int .i64 0] (⟨some (b1, 0), 0, 0⟩ : Sl) t0 fun x2 => K x2)
theorem br276 {t0 : Sl} {K : Sl → Mem → Prop} {X : List PanicEntry → Mem → Prop} {M : Mem} (H : S276 t0 K X M) :
  Spec Tryz.prog 276 #[Sl.v t0] M (fun v_ M => ∃ (r0 : Sl), v_ = Sl.v r0 ∧ K r0 M) X := by
 refine spec_of_J (args := [Sl.v t0]) Tryz.func276 rfl Tryz.ntmps276 (Nat.le_of_ble_eq_true rfl) ?_
 have hD : (⟨fun i => ([Sl.v t0] : List Value).getD i undef, []⟩ : Env).D = [] := rfl
 have hP := Pv.nil M
 have hX := @kx_of Tryz.prog Tryz.f276 (fun v_ M => ∃ (r0 : Sl), v_ = Sl.v r0 ∧ K r0 M) X
 unfold S276 at H
 refine J_seq ?_
 refine J_region (by decide) ?_
 refine JO_assign (v := Sl.v (⟨none, 0, 0⟩ : Sl)) rfl ?_
 refine JO_nil ?_
 refine J_seq ?_
 refine J_seq ?_
 refine J_region (by decide) ?_
 refine JO_move (v := Sl.v t0) rfl ?_
 refine JO_eqlNilSl (s := t0) is_109 rfl rfl ?_
 refine JO_nil ?_
 refine J_cond (t := t0.a.isNone) rfl (fun hc_ => ?_) (fun hc_ => ?_)
 ·
  replace H := H.1 hc_
  clear hc_
  refine J_seq ?_
  refine J_region (by decide) ?_
  refine JO_assign (v := Sl.v (⟨none, 0, 0⟩ : Sl)) rfl ?_
  refine JO_nil ?_
  exact J_ret (kret (pan := X)  hD (fun _ _ hb => hP.sub hb) (resOk (rs := [.tmp 2]) (vs := [Sl.v (⟨none, 0, 0⟩ : Sl)]) rfl ⟨item_tmp rfl, trivial⟩) ⟨(⟨none, 0, 0⟩ : Sl), rfl, H⟩)
 ·
  replace H := H.2 hc_
  clear hc_
  refine J_skip ?_
  refine J_seq ?_
  refine J_region (by decide) ?_
  refine JO_bsl0 ul_109 sz_3 ?_
  intro b1 hb
  replace H := H b1 (hP.out hb).1
  replace hP := hP.new hb (.cells #[] 3 (0, 0))
  refine JO_move (v := Sl.v t0) rfl ?_
  refine JO_loud ((hP.opJ (OpJ_app (s := (⟨some (b1, 0), 0, 0⟩ : Sl)) (z := t0) ul_109 sb_3 zc_3 rfl rfl H)).mono (fun _ _ h => h) (fun _ _ ⟨_, _, f⟩ => f.elim)) ?_
  rintro _ Mp ⟨M, hP, x2, rfl, H⟩
  refine JO_assign (v := Sl.v x2) rfl ?_
  refine JO_nil ?_
  exact J_ret (kret (pan := X)  hD (fun _ _ hb => hP.sub hb) (resOk (rs := [.tmp 2]) (vs := [Sl.v x2]) rfl ⟨item_tmp rfl, trivial⟩) ⟨x2, rfl, H⟩)

/-! slices.Insert[[]string,string] -/
def S280 (t0 : Sl) (t1 : Int) (t2 : Sl) (K : Sl → Mem → Prop) (X : List PanicEntry → Mem → Prop) : Mem → Prop :=
 must (0 ≤ t1 ∧ t1 ≤ (t0.n : Int) ∧ True ∧ (t0.c : Int) ≤ (t0.c : Int)) <| ite' ((t2.n : Int) == 0) (K t0) (ite' (t1 == (t0.n : Int)) (appS 9 1 16 [.string (⟨#[]⟩ : ByteArray)] t0 t2 fun x2 => K x2) (ite' (decide ((IntKind.wrap .i64 ((t0.n : Int) + (t2.n : Int))) > (t0.c : Int))) (must (0 ≤ (0 : Int) ∧ (0 : Int) ≤ t1 ∧ t1 ≤ (t0.c : Int) ∧ (t0.c : Int) ≤ (t0.c : Int)) <| appZ 9 1 16 [.string (⟨#[]⟩ : ByteArray)] (Sl.cut t0 1 (0 : Int) t1 (t0.c : Int)) (IntKind.wrap .i64 ((IntKind.wrap .i64 ((t0.n : Int) + (t2.n : Int))) - t1)) fun x4 => must (0 ≤ t1 ∧ t1 ≤ (x4.n : Int) ∧ True ∧ (x4.c : Int) ≤ (x4.c : Int)) <| cpS 1 (Sl.cut x4 1 t1 (x4.n : Int) (x4.c : Int)) t2 fun x6 => must (0 ≤ IntKind.wrap .i64 (t1 + (t2.n : Int)) ∧ IntKind.wrap .i64 (t1 + (t2.n : Int)) ≤ (x4.n : Int) ∧ True ∧ (x4.c : Int) ≤ (x4.c : Int)) <| must (0 ≤ t1 ∧ t1 ≤ (t0.n : Int) ∧ True ∧ (t0.c : Int) ≤ (t0.c : Int)) <| cpS 1 (Sl.cut x4 1 (IntKind.wrap .i64 (t1 + (t2.n : Int))) (x4.n : Int) (x4.c : Int)) (Sl.cut t0 1 t1 (t0.n : Int) (t0.c : Int)) fun x9 => K x4) (must (0 ≤ (0 : Int) ∧ (0 : Int) ≤ IntKind.wrap .i64 ((t0.n : Int) + (t2.n : Int)) ∧ IntKind.wrap .i64 ((t0.n : Int) + (t2.n : Int)) ≤ (t0.c : Int) ∧ (t0.c : Int) ≤ (t0.c : Int)) <| must (0 ≤ IntKind.wrap .i64 (t1 + (t2.n : Int)) ∧ IntKind.wrap .i64 (t1 + (t2.n : Int)) ≤ ((Sl.cut t0 1 (0 : Int) (IntKind.wrap .i64 ((t0.n : Int) + (t2.n : Int))) (t0.c : Int)).n : Int) ∧ True ∧ ((Sl.cut t0 1 (0 : Int) (IntKind.wrap .i64 ((t0.n : Int) + (t2.n : Int))) (t0.c : Int)).c : Int) ≤ ((Sl.cut t0 1 (0 : Int) (IntKind.wrap .i64 ((t0.n : Int) + (t2.n : Int))) (t0.c : Int)).c : Int)) <| callE 333 [Sl.v t2, Sl.v (Sl.cut (Sl.cut t0 1 (0 : Int) (IntKind.wrap .i64 ((t0.n : Int) + (t2.n : Int))) (t0.c : Int)) 1 (IntKind.wrap .i64 (t1 + (t2.n : Int))) ((Sl.cut t0 1 (0 : Int) (IntKind.wrap .i64 ((t0.n : Int) + (t2.n : Int))) (t0.c : Int)).n : Int) ((Sl.cut t0 1 (0 : Int) (IntKind.wrap .i64 ((t0.n : Int) + (t2.n : Int))) (t0.c : Int)).c : Int))] (fun _ _ => False) fun v_ M => ∃ (r12 : Bool), v_ = .bool r12 ∧ ( ite' (!r12) (must (0 ≤ IntKind.wrap .i64 (t1 + (t2.n : Int)) ∧ IntKind.wrap .i64 (t1 + (t2.n : Int)) ≤ ((Sl.cut t0 1 (0 : Int) (IntKind.wrap .i64 ((t0.n : Int) + (t2.n : Int))) (t0.c : Int)).n : Int) ∧ True ∧ ((Sl.cut t0 1 (0 : Int) (IntKind.wrap .i64 ((t0.n : Int) + (t2.n : Int))) (t0.c : Int)).c : Int) ≤ ((Sl.cut t0 1 (0 : Int) (IntKind.wrap .i64 ((t0.n : Int) + (t2.n : Int))) (t0.c : Int)).c : Int)) <| must (0 ≤ t1 ∧ t1 ≤ ((Sl.cut t0 1 (0 : Int) (IntKind.wrap .i64 ((t0.n : Int) + (t2.n : Int))) (t0.c : Int)).n : Int) ∧ True ∧ ((Sl.cut t0 1 (0 : Int) (IntKind.wrap .i64 ((t0.n : Int) + (t2.n : Int))) (t0.c : Int)).c : Int) ≤ ((Sl.cut t0 1 (0 : Int) (IntKind.wrap .i64 ((t0.n : Int) + (t2.n : Int))) (t0.c : Int)).c : Int)) <| cpS 1 (Sl.cut (Sl.cut t0 1 (0 : Int) (IntKind.wrap .i64 ((t0.n : Int) + (t2.n : Int))) (t0.c : Int)) 1 (IntKind.wrap .i64 (t1 + (t2.n : Int))) ((Sl.cut t0 1 (0 : Int) (IntKind.wrap .i64 ((t0.n : Int) + (t2.n : Int))) (t0.c : Int)).n : Int) ((Sl.cut t0 1 (0 : Int) (IntKind.wrap .i64 ((t0.n : Int) + (t2.n : Int))) (t0.c : Int)).c : Int)) (Sl.cut (Sl.cut t0 1 (0 : Int) (IntKind.wrap .i64 ((t0.n : Int) + (t2.n : Int))) (t0.c : Int)) 1 t1 ((Sl.cut t0 1 (0 : Int) (IntKind.wrap .i64 ((t0.n : Int) + (t2.n : Int))) (t0.c : Int)).n : Int) ((Sl.cut t0 1 (0 : Int) (IntKind.wrap .i64 ((t0.n : Int) + (t2.n : Int))) (t0.c : Int)).c : Int)) fun x15 => must (0 ≤ t1 ∧ t1 ≤ ((Sl.cut t0 1 (0 : Int) (IntKind.wrap .i64 ((t0.n : Int) + (t2.n : Int))) (t0.c : Int)).n : Int) ∧ True ∧ ((Sl.cut t0 1 (0 : Int) (IntKind.wrap .i64 ((t0.n : Int) + (t2.n : Int))) (t0.c : Int)).c : Int) ≤ ((Sl.cut t0 1 (0 : Int) (IntKind.wrap .i64 ((t0.n : Int) + (t2.n : Int))) (t0.c : Int)).c : Int)) <| cpS 1 (Sl.cut (Sl.cut t0 1 (0 : Int) (IntKind.wrap .i64 ((t0.n : Int) + (t2.n : Int))) (t0.c : Int)) 1 t1 ((Sl.cut t0 1 (0 : Int) (IntKind.wrap .i64 ((t0.n : Int) + (t2.n : Int))) (t0.c : Int)).n : Int) ((Sl.cut t0 1 (0 : Int) (IntKind.wrap .i64 ((t0.n : Int) + (t2.n : Int))) (t0.c : Int)).c : Int)) t2 fun x17 => K (Sl.cut t0 1 (0 : Int) (IntKind.wrap .i64 ((t0.n : Int) + (t2.n : Int))) (t0.c : Int))) (must (0 ≤ (t0.n : Int) ∧ (t0.n : Int) ≤ ((Sl.cut t0 1 (0 : Int) (IntKind.wrap .i64 ((t0.n : Int) + (t2.n : Int))) (t0.c : Int)).n : Int) ∧ True ∧ ((Sl.cut t0 1 (0 : Int) (IntKind.wrap .i64 ((t0.n : Int) + (t2.n : Int))) (t0.c : Int)).c : Int) ≤ ((Sl.cut t0 1 (0 : Int) (IntKind.wrap .i64 ((t0.n : Int) + (t2.n : Int))) (t0.c : Int)).c : Int)) <| cpS 1 (Sl.cut (Sl.cut t0 1 (0 : Int) (IntKind.wrap .i64 ((t0.n : Int) + (t2.n : Int))) (t0.c : Int)) 1 (t0.n : Int) ((Sl.cut t0 1 (0 : Int) (IntKind.wrap .i64 ((t0.n : Int) + (t2.n : Int))) (t0.c : Int)).n : Int) ((Sl.cut t0 1 (0 : Int) (IntKind.wrap .i64 ((t0.n : Int) + (t2.n : Int))) (t0.c : Int)).c : Int)) t2 fun x19 => must (0 ≤ t1 ∧ t1 ≤ ((Sl.cut t0 1 (0 : Int) (IntKind.wrap .i64 ((t0.n : Int) + (t2.n : Int))) (t0.c : Int)).n : Int) ∧ True ∧ ((Sl.cut t0 1 (0 : Int) (IntKind.wrap .i64 ((t0.n : Int) + (t2.n : Int))) (t0.c : Int)).c : Int) ≤ ((Sl.cut t0 1 (0 : Int) (IntKind.wrap .i64 ((t0.n : Int) + (t2.n : Int))) (t0.c : Int)).c : Int)) <| call 334 [Sl.v (Sl.cut (Sl.cut t0 1 (0 : Int) (IntKind.wrap .i64 ((t0.n : Int) + (t2.n : Int))) (t0.c : Int)) 1 t1 ((Sl.cut t0 1 (0 : Int) (IntKind.wrap .i64 ((t0.n : Int) + (t2.n : Int))) (t0.c : Int)).n : Int) ((Sl.cut t0 1 (0 : Int) (IntKind.wrap .i64 ((t0.n : Int) + (t2.n : Int))) (t0.c : Int)).c : Int)), .int .i64 (t2.n : Int)] X fun v_ M => ( K (Sl.cut t0 1 (0 : Int) (IntKind.wrap .i64 ((t0.n : Int) + (t2.n : Int))) (t0.c : Int))) M)) M)))
theorem br280 {t0 : Sl} {t1 : Int} {t2 : Sl} {K : Sl → Mem → Prop} {X : List PanicEntry → Mem → Prop} {M : Mem} (H : S280 t0 t1 t2 K X M) :
  Spec Tryz.prog 280 #[Sl.v t0, .int .i64 t1, Sl.v t2] M (fun v_ M => ∃ (r0 : Sl), v_ = Sl.v r0 ∧ K r0 M) X := by
 refine spec_of_J (args := [Sl.v t0, .int .i64 t1, Sl.v t2]) Tryz.func280 rfl Tryz.ntmps280 (Nat.le_of_ble_eq_true rfl) ?_
 have hD : (⟨fun i => ([Sl.v t0, .int .i64 t1, Sl.v t2] : List Value).getD i undef, []⟩ : Env).D = [] := rfl
 have hP := Pv.nil M
 have hX := @kx_of Tryz.prog Tryz.f280 (fun v_ M => ∃ (r0 : Sl), v_ = Sl.v r0 ∧ K r0 M) X
 unfold S280 at H
 refine J_seq ?_
 refine J_region (by decide) ?_
 refine JO_assign (v := Sl.v (⟨none, 0, 0⟩ : Sl)) rfl ?_
 refine JO_nil ?_
 refine J_seq ?_
 refine J_region (by decide) ?_
 refine JO_move (v := Sl.v t0) rfl ?_
 refine JO_move (v := .int .i64 t1) rfl ?_
 obtain ⟨g1, H⟩ := H
 refine JO_slice (s := t0) (l := t1) (h := (t0.n : Int)) (m := (t0.c : Int)) es_36 rfl rfl rfl ⟨_, rfl⟩ g1.1 g1.2.1 (by simp) g1.2.2.2 (by simp) ?_
 refine JO_nil ?_
 refine J_seq ?_
 refine J_region (by decide) ?_
 refine JO_move (v := Sl.v t2) rfl ?_
 refine JO_len (s := t2) is_36 rfl ?_
 refine JO_assign (v := .int .i64 (t2.n : Int)) rfl ?_
 refine JO_nil ?_
 refine J_seq ?_
 refine J_seq ?_
 refine J_region (by decide) ?_
 refine JO_move (v := .int .i64 (t2.n : Int)) rfl ?_
 refine JO_iop (op := .eql) (k := .i64) (a := (t2.n : Int)) (b := 0) rfl rfl trivial ?_
 refine JO_nil ?_
 refine J_cond (t := (t2.n : Int) == 0) rfl (fun hc_ => ?_) (fun hc_ => ?_)
 ·
  replace H := H.1 hc_
  clear hc_
  refine J_seq ?_
  refine J_region (by decide) ?_
  refine JO_move (v := Sl.v t0) rfl ?_
  refine JO_assign (v := Sl.v t0) rfl ?_
  refine JO_nil ?_
  exact J_ret (kret (pan := X)  hD (fun _ _ hb => hP.sub hb) (resOk (rs := [.tmp 6]) (vs := [Sl.v t0]) rfl ⟨item_tmp rfl, trivial⟩) ⟨t0, rfl, H⟩)
 ·
  replace H := H.2 hc_
  clear hc_
  refine J_skip ?_
  refine J_seq ?_
  refine J_region (by decide) ?_
  refine JO_move (v := Sl.v t0) rfl ?_
  refine JO_len (s := t0) is_36 rfl ?_
  refine JO_assign (v := .int .i64 (t0.n : Int)) rfl ?_
  refine JO_nil ?_
  refine J_seq ?_
  refine J_seq ?_
  refine J_region (by decide) ?_
  refine JO_move (v := .int .i64 t1) rfl ?_
  refine JO_move (v := .int .i64 (t0.n : Int)) rfl ?_
  refine JO_iop (op := .eql) (k := .i64) (a := t1) (b := (t0.n : Int)) rfl rfl trivial ?_
  refine JO_nil ?_
  refine J_cond (t := t1 == (t0.n : Int)) rfl (fun hc_ => ?_) (fun hc_ => ?_)
  ·
   replace H := H.1 hc_
   clear hc_
   refine J_seq ?_
   refine J_region (by decide) ?_
   refine JO_move (v := Sl.v t0) rfl ?_
   refine JO_move (v := Sl.v t2) rfl ?_
   refine JO_loud ((hP.opJ (OpJ_app (s := t0) (z := t2) ul_36 sb_9 zc_9 rfl rfl H)).mono (fun _ _ h => h) (fun _ _ ⟨_, _, f⟩ => f.elim)) ?_
   rintro _ Mp ⟨M, hP, x2, rfl, H⟩
   refine JO_assign (v := Sl.v x2) rfl ?_
   refine JO_nil ?_
   exact J_ret (kret (pan := X)  hD (fun _ _ hb => hP.sub hb) (resOk (rs := [.tmp 6]) (vs := [Sl.v x2]) rfl ⟨item_tmp rfl, trivial⟩) ⟨x2, rfl, H⟩)
  ·
   replace H := H.2 hc_
   clear hc_
   refine J_skip ?_
   refine J_seq ?_
   refine J_seq ?_
   refine J_region (by decide) ?_
   refine JO_move (v := .int .i64 (t0.n : Int)) rfl ?_
   refine JO_move (v := .int .i64 (t2.n : Int)) rfl ?_
   refine JO_iop (op := .add) (k := .i64) (a := (t0.n : Int)) (b := (t2.n : Int)) rfl rfl trivial ?_
   refine JO_move (v := Sl.v t0) rfl ?_
   refine JO_cap (s := t0) is_36 rfl ?_
   refine JO_iop (op := .gtr) (k := .i64) (a := IntKind.wrap .i64 ((t0.n : Int) + (t2.n : Int))) (b := (t0.c : Int)) rfl rfl trivial ?_
   refine JO_nil ?_
   refine J_cond (t := decide ((IntKind.wrap .i64 ((t0.n : Int) + (t2.n : Int))) > (t0.c : Int))) rfl (fun hc_ => ?_) (fun hc_ => ?_)
   ·
    replace H := H.1 hc_
    clear hc_
    refine J_seq ?_
    refine J_region (by decide) ?_
    refine JO_move (v := Sl.v t0) rfl ?_
    refine JO_move (v := .int .i64 t1) rfl ?_
    obtain ⟨g3, H⟩ := H
    refine JO_slice (s := t0) (l := (0 : Int)) (h := t1) (m := (t0.c : Int)) es_36 rfl rfl ⟨_, rfl⟩ rfl g3.1 g3.2.1 (fun _ => g3.2.2.1) g3.2.2.2 (by simp) ?_
    refine JO_move (v := .int .i64 (t0.n : Int)) rfl ?_
    refine JO_move (v := .int .i64 (t2.n : Int)) rfl ?_
    refine JO_iop (op := .add) (k := .i64) (a := (t0.n : Int)) (b := (t2.n : Int)) rfl rfl trivial ?_
    refine JO_move (v := .int .i64 t1) rfl ?_
    refine JO_iop (op := .sub) (k := .i64) (a := IntKind.wrap .i64 ((t0.n : Int) + (t2.n : Int))) (b := t1) rfl rfl trivial ?_
    refine JO_loud ((hP.opJ (OpJ_appZ (s := Sl.cut t0 1 (0 : Int) t1 (t0.c : Int)) (n := IntKind.wrap .i64 ((IntKind.wrap .i64 ((t0.n : Int) + (t2.n : Int))) - t1)) ul_36 ul_3 sb_9 zc_9 rfl rfl H)).mono (fun _ _ h => h) (fun _ _ ⟨_, _, f⟩ => f.elim)) ?_
    rintro _ Mp ⟨M, hP, x4, rfl, H⟩
    refine JO_assign (v := Sl.v x4) rfl ?_
    refine JO_nil ?_
    refine J_seq ?_
    refine J_region (by decide) ?_
    refine JO_move (v := Sl.v x4) rfl ?_
    refine JO_move (v := .int .i64 t1) rfl ?_
    obtain ⟨g5, H⟩ := H
    refine JO_slice (s := x4) (l := t1) (h := (x4.n : Int)) (m := (x4.c : Int)) es_36 rfl rfl rfl ⟨_, rfl⟩ g5.1 g5.2.1 (by simp) g5.2.2.2 (by simp) ?_
    refine JO_move (v := Sl.v t2) rfl ?_
    refine JO_loud ((hP.opJ (OpJ_cp (s := Sl.cut x4 1 t1 (x4.n : Int) (x4.c : Int)) (z := t2) ul_36 sz_9 rfl rfl H)).mono (fun _ _ h => h) (fun _ _ ⟨_, _, f⟩ => f.elim)) ?_
    rintro _ Mp ⟨M, hP, x6, rfl, H⟩
    refine JO_nil ?_
    refine J_seq ?_
    refine J_draw [0, 0, 0, 0, 0, 0, 0, 0, 3] (.cho 0 (.cho 1 (.cho 2 (.cho 3 (.cho 4 (.cho 5 (.cho 6 (.cho 7 (.cho 8 .done .none) .none) .none) .none) .none) .none) .none) .none) .none) rfl (by kernel_rfl) ?_
    refine JE_one ?_
    refine ST0 (fun _ h => by cases h) (fun w => OV_move (v := Sl.v x4) rfl w) ?_
    refine JE_one ?_
    refine ST0 (fun _ h => by cases h) (fun w => OV_move (v := .int .i64 t1) rfl w) ?_
    refine JE_one ?_
    refine ST0 (fun _ h => by cases h) (fun w => OV_move (v := .int .i64 (t2.n : Int)) rfl w) ?_
    refine JE_one ?_
    refine ST0 (fun _ h => by cases h) (fun w => OV_iop (op := .add) (k := .i64) (a := t1) (b := (t2.n : Int)) rfl rfl trivial w) ?_
    refine JE_one ?_
    obtain ⟨g7, H⟩ := H
    refine ST0 (fun _ h => by cases h) (fun w => OV_slice (s := x4) (l := IntKind.wrap .i64 (t1 + (t2.n : Int))) (h := (x4.n : Int)) (m := (x4.c : Int)) es_36 rfl (by exact rfl) (by exact rfl) (by exact ⟨_, rfl⟩) g7.1 g7.2.1 (by simp) g7.2.2.2 (by simp) w) ?_
    refine JE_one ?_
    refine ST0 (fun _ h => by cases h) (fun w => OV_move (v := Sl.v t0) rfl w) ?_
    refine JE_one ?_
    refine ST0 (fun _ h => by cases h) (fun w => OV_move (v := .int .i64 t1) rfl w) ?_
    refine JE_one ?_
    obtain ⟨g8, H⟩ := H
    refine ST0 (fun _ h => by cases h) (fun w => OV_slice (s := t0) (l := t1) (h := (t0.n : Int)) (m := (t0.c : Int)) es_36 rfl (by exact rfl) (by exact rfl) (by exact ⟨_, rfl⟩) g8.1 g8.2.1 (by simp) g8.2.2.2 (by simp) w) ?_
    refine JE_one ?_
    refine ST3 ?_
    refine JO_loud ((hP.opJ (OpJ_cp (s := Sl.cut x4 1 (IntKind.wrap .i64 (t1 + (t2.n : Int))) (x4.n : Int) (x4.c : Int)) (z := Sl.cut t0 1 t1 (t0.n : Int) (t0.c : Int)) ul_36 sz_9 rfl rfl H)).mono (fun _ _ h => h) (fun _ _ ⟨_, _, f⟩ => f.elim)) ?_
    rintro _ Mp ⟨M, hP, x9, rfl, H⟩
    refine Kd_nil ?_
    refine JE_done ?_
    refine J_seq ?_
    refine J_region (by decide) ?_
    refine JO_move (v := Sl.v x4) rfl ?_
    refine JO_assign (v := Sl.v x4) rfl ?_
    refine JO_nil ?_
    exact J_ret (kret (pan := X)  hD (fun _ _ hb => hP.sub hb) (resOk (rs := [.tmp 6]) (vs := [Sl.v x4]) rfl ⟨item_tmp rfl, trivial⟩) ⟨x4, rfl, H⟩)
   ·
    replace H := H.2 hc_
    clear hc_
    refine J_skip ?_
    refine J_seq ?_
    refine J_region (by decide) ?_
    refine JO_move (v := Sl.v t0) rfl ?_
    refine JO_move (v := .int .i64 (t0.n : Int)) rfl ?_
    refine JO_move (v := .int .i64 (t2.n : Int)) rfl ?_
    refine JO_iop (op := .add) (k := .i64) (a := (t0.n : Int)) (b := (t2.n : Int)) rfl rfl trivial ?_
    obtain ⟨g10, H⟩ := H
    refine JO_slice (s := t0) (l := (0 : Int)) (h := IntKind.wrap .i64 ((t0.n : Int) + (t2.n : Int))) (m := (t0.c : Int)) es_36 rfl rfl ⟨_, rfl⟩ rfl g10.1 g10.2.1 (fun _ => g10.2.2.1) g10.2.2.2 (by simp) ?_
    refine JO_assign (v := Sl.v (Sl.cut t0 1 (0 : Int) (IntKind.wrap .i64 ((t0.n : Int) + (t2.n : Int))) (t0.c : Int))) rfl ?_
    refine JO_nil ?_
    refine J_seq ?_
    refine J_seq ?_
    refine J_region (by decide) ?_
    refine JO_move (v := Sl.v t2) rfl ?_
    refine JO_move (v := Sl.v (Sl.cut t0 1 (0 : Int) (IntKind.wrap .i64 ((t0.n : Int) + (t2.n : Int))) (t0.c : Int))) rfl ?_
    refine JO_move (v := .int .i64 t1) rfl ?_
    refine JO_move (v := .int .i64 (t2.n : Int)) rfl ?_
    refine JO_iop (op := .add) (k := .i64) (a := t1) (b := (t2.n : Int)) rfl rfl trivial ?_
    obtain ⟨g11, H⟩ := H
    refine JO_slice (s := Sl.cut t0 1 (0 : Int) (IntKind.wrap .i64 ((t0.n : Int) + (t2.n : Int))) (t0.c : Int)) (l := IntKind.wrap .i64 (t1 + (t2.n : Int))) (h := ((Sl.cut t0 1 (0 : Int) (IntKind.wrap .i64 ((t0.n : Int) + (t2.n : Int))) (t0.c : Int)).n : Int)) (m := ((Sl.cut t0 1 (0 : Int) (IntKind.wrap .i64 ((t0.n : Int) + (t2.n : Int))) (t0.c : Int)).c : Int)) es_36 rfl rfl rfl ⟨_, rfl⟩ g11.1 g11.2.1 (by simp) g11.2.2.2 (by simp) ?_
    refine JO_loud ((hP.opJ (OpJ_ext (vs := [Sl.v t2, Sl.v (Sl.cut (Sl.cut t0 1 (0 : Int) (IntKind.wrap .i64 ((t0.n : Int) + (t2.n : Int))) (t0.c : Int)) 1 (IntKind.wrap .i64 (t1 + (t2.n : Int))) ((Sl.cut t0 1 (0 : Int) (IntKind.wrap .i64 ((t0.n : Int) + (t2.n : Int))) (t0.c : Int)).n : Int) ((Sl.cut t0 1 (0 : Int) (IntKind.wrap .i64 ((t0.n : Int) + (t2.n : Int))) (t0.c : Int)).c : Int))]) (mc rfl (mc rfl mn)) (H _))).mono (fun _ _ h => h) (fun _ _ ⟨_, _, f⟩ => f.elim)) ?_
    rintro v Mp ⟨M, hP, r12, rfl, H⟩
    refine JO_not (b := r12) rfl ?_
    refine JO_nil ?_
    refine J_cond (t := !r12) rfl (fun hc_ => ?_) (fun hc_ => ?_)
    ·
     replace H := H.1 hc_
     clear hc_
     refine J_seq ?_
     refine J_draw [0, 0, 0, 0, 0, 0, 0, 0, 3] (.cho 0 (.cho 1 (.cho 2 (.cho 3 (.cho 4 (.cho 5 (.cho 6 (.cho 7 (.cho 8 .done .none) .none) .none) .none) .none) .none) .none) .none) .none) rfl (by kernel_rfl) ?_
     refine JE_one ?_
     refine ST0 (fun _ h => by cases h) (fun w => OV_move (v := Sl.v (Sl.cut t0 1 (0 : Int) (IntKind.wrap .i64 ((t0.n : Int) + (t2.n : Int))) (t0.c : Int))) rfl w) ?_
     refine JE_one ?_
     refine ST0 (fun _ h => by cases h) (fun w => OV_move (v := .int .i64 t1) rfl w) ?_
     refine JE_one ?_
     refine ST0 (fun _ h => by cases h) (fun w => OV_move (v := .int .i64 (t2.n : Int)) rfl w) ?_
     refine JE_one ?_
     refine ST0 (fun _ h => by cases h) (fun w => OV_iop (op := .add) (k := .i64) (a := t1) (b := (t2.n : Int)) rfl rfl trivial w) ?_
     refine JE_one ?_
     obtain ⟨g13, H⟩ := H
     refine ST0 (fun _ h => by cases h) (fun w => OV_slice (s := Sl.cut t0 1 (0 : Int) (IntKind.wrap .i64 ((t0.n : Int) + (t2.n : Int))) (t0.c : Int)) (l := IntKind.wrap .i64 (t1 + (t2.n : Int))) (h := ((Sl.cut t0 1 (0 : Int) (IntKind.wrap .i64 ((t0.n : Int) + (t2.n : Int))) (t0.c : Int)).n : Int)) (m := ((Sl.cut t0 1 (0 : Int) (IntKind.wrap .i64 ((t0.n : Int) + (t2.n : Int))) (t0.c : Int)).c : Int)) es_36 rfl (by exact rfl) (by exact rfl) (by exact ⟨_, rfl⟩) g13.1 g13.2.1 (by simp) g13.2.2.2 (by simp) w) ?_
     refine JE_one ?_
     refine ST0 (fun _ h => by cases h) (fun w => OV_move (v := Sl.v (Sl.cut t0 1 (0 : Int) (IntKind.wrap .i64 ((t0.n : Int) + (t2.n : Int))) (t0.c : Int))) rfl w) ?_
     refine JE_one ?_
     refine ST0 (fun _ h => by cases h) (fun w => OV_move (v := .int .i64 t1) rfl w) ?_
     refine JE_one ?_
     obtain ⟨g14, H⟩ := H
     refine ST0 (fun _ h => by cases h) (fun w => OV_slice (s := Sl.cut t0 1 (0 : Int) (IntKind.wrap .i64 ((t0.n : Int) + (t2.n : Int))) (t0.c : Int)) (l := t1) (h := ((Sl.cut t0 1 (0 : Int) (IntKind.wrap .i64 ((t0.n : Int) + (t2.n : Int))) (t0.c : Int)).n : Int)) (m := ((Sl.cut t0 1 (0 : Int) (IntKind.wrap .i64 ((t0.n : Int) + (t2.n : Int))) (t0.c : Int)).c : Int)) es_36 rfl (by exact rfl) (by exact rfl) (by exact ⟨_, rfl⟩) g14.1 g14.2.1 (by simp) g14.2.2.2 (by simp) w) ?_
     refine JE_one ?_
     refine ST3 ?_
     refine JO_loud ((hP.opJ (OpJ_cp (s := Sl.cut (Sl.cut t0 1 (0 : Int) (IntKind.wrap .i64 ((t0.n : Int) + (t2.n : Int))) (t0.c : Int)) 1 (IntKind.wrap .i64 (t1 + (t2.n : Int))) ((Sl.cut t0 1 (0 : Int) (IntKind.wrap .i64 ((t0.n : Int) + (t2.n : Int))) (t0.c : Int)).n : Int) ((Sl.cut t0 1 (0 : Int) (IntKind.wrap .i64 ((t0.n : Int) + (t2.n : Int))) (t0.c : Int)).c : Int)) (z := Sl.cut (Sl.cut t0 1 (0 : Int) (IntKind.wrap .i64 ((t0.n : Int) + (t2.n : Int))) (t0.c : Int)) 1 t1 ((Sl.cut t0 1 (0 : Int) (IntKind.wrap .i64 ((t0.n : Int) + (t2.n : Int))) (t0.c : Int)).n : Int) ((Sl.cut t0 1 (0 : Int) (IntKind.wrap .i64 ((t0.n : Int) + (t2.n : Int))) (t0.c : Int)).c : Int)) ul_36 sz_9 rfl rfl H)).mono (fun _ _ h => h) (fun _ _ ⟨_, _, f⟩ => f.elim)) ?_
     rintro _ Mp ⟨M, hP, x15, rfl, H⟩
     refine Kd_nil ?_
     refine JE_done ?_
     refine J_seq ?_
     refine J_region (by decide) ?_
     refine JO_move (v := Sl.v (Sl.cut t0 1 (0 : Int) (IntKind.wrap .i64 ((t0.n : Int) + (t2.n : Int))) (t0.c : Int))) rfl ?_
     refine JO_move (v := .int .i64 t1) rfl ?_
     obtain ⟨g16, H⟩ := H
     refine JO_slice (s := Sl.cut t0 1 (0 : Int) (IntKind.wrap .i64 ((t0.n : Int) + (t2.n : Int))) (t0.c : Int)) (l := t1) (h := ((Sl.cut t0 1 (0 : Int) (IntKind.wrap .i64 ((t0.n : Int) + (t2.n : Int))) (t0.c : Int)).n : Int)) (m := ((Sl.cut t0 1 (0 : Int) (IntKind.wrap .i64 ((t0.n : Int) + (t2.n : Int))) (t0.c : Int)).c : Int)) es_36 rfl rfl rfl ⟨_, rfl⟩ g16.1 g16.2.1 (by simp) g16.2.2.2 (by simp) ?_
     refine JO_move (v := Sl.v t2) rfl ?_
     refine JO_loud ((hP.opJ (OpJ_cp (s := Sl.cut (Sl.cut t0 1 (0 : Int) (IntKind.wrap .i64 ((t0.n : Int) + (t2.n : Int))) (t0.c : Int)) 1 t1 ((Sl.cut t0 1 (0 : Int) (IntKind.wrap .i64 ((t0.n : Int) + (t2.n : Int))) (t0.c : Int)).n : Int) ((Sl.cut t0 1 (0 : Int) (IntKind.wrap .i64 ((t0.n : Int) + (t2.n : Int))) (t0.c : Int)).c : Int)) (z := t2) ul_36 sz_9 rfl rfl H)).mono (fun _ _ h => h) (fun _ _ ⟨_, _, f⟩ => f.elim)) ?_
     rintro _ Mp ⟨M, hP, x17, rfl, H⟩
     refine JO_nil ?_
     refine J_seq ?_
     refine J_region (by decide) ?_
     refine JO_move (v := Sl.v (Sl.cut t0 1 (0 : Int) (IntKind.wrap .i64 ((t0.n : Int) + (t2.n : Int))) (t0.c : Int))) rfl ?_
     refine JO_assign (v := Sl.v (Sl.cut t0 1 (0 : Int) (IntKind.wrap .i64 ((t0.n : Int) + (t2.n : Int))) (t0.c : Int))) rfl ?_
     refine JO_nil ?_
     exact J_ret (kret (pan := X)  hD (fun _ _ hb => hP.sub hb) (resOk (rs := [.tmp 6]) (vs := [Sl.v (Sl.cut t0 1 (0 : Int) (IntKind.wrap .i64 ((t0.n : Int) + (t2.n : Int))) (t0.c : Int))]) rfl ⟨item_tmp rfl, trivial⟩) ⟨Sl.cut t0 1 (0 : Int) (IntKind.wrap .i64 ((t0.n : Int) + (t2.n : Int))) (t0.c : Int), rfl, H⟩)
    ·
     replace H := H.2 hc_
     clear hc_
     refine J_skip ?_
     refine J_seq ?_
     refine J_region (by decide) ?_
     refine JO_move (v := Sl.v (Sl.cut t0 1 (0 : Int) (IntKind.wrap .i64 ((t0.n : Int) + (t2.n : Int))) (t0.c : Int))) rfl ?_
     refine JO_move (v := .int .i64 (t0.n : Int)) rfl ?_
     obtain ⟨g18, H⟩ := H
     refine JO_slice (s := Sl.cut t0 1 (0 : Int) (IntKind.wrap .i64 ((t0.n : Int) + (t2.n : Int))) (t0.c : Int)) (l := (t0.n : Int)) (h := ((Sl.cut t0 1 (0 : Int) (IntKind.wrap .i64 ((t0.n : Int) + (t2.n : Int))) (t0.c : Int)).n : Int)) (m := ((Sl.cut t0 1 (0 : Int) (IntKind.wrap .i64 ((t0.n : Int) + (t2.n : Int))) (t0.c : Int)).c : Int)) es_36 rfl rfl rfl ⟨_, rfl⟩ g18.1 g18.2.1 (by simp) g18.2.2.2 (by simp) ?_
     refine JO_move (v := Sl.v t2) rfl ?_
     refine JO_loud ((hP.opJ (OpJ_cp (s := Sl.cut (Sl.cut t0 1 (0 : Int) (IntKind.wrap .i64 ((t0.n : Int) + (t2.n : Int))) (t0.c : Int)) 1 (t0.n : Int) ((Sl.cut t0 1 (0 : Int) (IntKind.wrap .i64 ((t0.n : Int) + (t2.n : Int))) (t0.c : Int)).n : Int) ((Sl.cut t0 1 (0 : Int) (IntKind.wrap .i64 ((t0.n : Int) + (t2.n : Int))) (t0.c : Int)).c : Int)) (z := t2) ul_36 sz_9 rfl rfl H)).mono (fun _ _ h => h) (fun _ _ ⟨_, _, f⟩ => f.elim)) ?_
     rintro _ Mp ⟨M, hP, x19, rfl, H⟩
     refine JO_nil ?_
     refine J_seq ?_
     refine J_region (by decide) ?_
     refine JO_move (v := Sl.v (Sl.cut t0 1 (0 : Int) (IntKind.wrap .i64 ((t0.n : Int) + (t2.n : Int))) (t0.c : Int))) rfl ?_
     refine JO_move (v := .int .i64 t1) rfl ?_
     obtain ⟨g20, H⟩ := H
     refine JO_slice (s := Sl.cut t0 1 (0 : Int) (IntKind.wrap .i64 ((t0.n : Int) + (t2.n : Int))) (t0.c : Int)) (l := t1) (h := ((Sl.cut t0 1 (0 : Int) (IntKind.wrap .i64 ((t0.n : Int) + (t2.n : Int))) (t0.c : Int)).n : Int)) (m := ((Sl.cut t0 1 (0 : Int) (IntKind.wrap .i64 ((t0.n : Int) + (t2.n : Int))) (t0.c : Int)).c : Int)) es_36 rfl rfl rfl ⟨_, rfl⟩ g20.1 g20.2.1 (by simp) g20.2.2.2 (by simp) ?_
     refine JO_move (v := .int .i64 (t2.n : Int)) rfl ?_
     refine JO_call Tryz.call334 (vs := [Sl.v (Sl.cut (Sl.cut t0 1 (0 : Int) (IntKind.wrap .i64 ((t0.n : Int) + (t2.n : Int))) (t0.c : Int)) 1 t1 ((Sl.cut t0 1 (0 : Int) (IntKind.wrap .i64 ((t0.n : Int) + (t2.n : Int))) (t0.c : Int)).n : Int) ((Sl.cut t0 1 (0 : Int) (IntKind.wrap .i64 ((t0.n : Int) + (t2.n : Int))) (t0.c : Int)).c : Int)), .int .i64 (t2.n : Int)]) (mc rfl (mc rfl mn)) ((hP.spec H).mono ?_ (fun ch Mp h => hX hD h))
     rintro rv_ Mp ⟨M, hP, H⟩
     refine JO_nil ?_
     refine J_seq ?_
     refine J_region (by decide) ?_
     refine JO_move (v := Sl.v (Sl.cut t0 1 (0 : Int) (IntKind.wrap .i64 ((t0.n : Int) + (t2.n : Int))) (t0.c : Int))) rfl ?_
     refine JO_assign (v := Sl.v (Sl.cut t0 1 (0 : Int) (IntKind.wrap .i64 ((t0.n : Int) + (t2.n : Int))) (t0.c : Int))) rfl ?_
     refine JO_nil ?_
     exact J_ret (kret (pan := X)  hD (fun _ _ hb => hP.sub hb) (resOk (rs := [.tmp 6]) (vs := [Sl.v (Sl.cut t0 1 (0 : Int) (IntKind.wrap .i64 ((t0.n : Int) + (t2.n : Int))) (t0.c : Int))]) rfl ⟨item_tmp rfl, trivial⟩) ⟨Sl.cut t0 1 (0 : Int) (IntKind.wrap .i64 ((t0.n : Int) + (t2.n : Int))) (t0.c : Int), rfl, H⟩)

/-! brazier/word.Get -/
def S284_2 (t6_ : Int) (K : Int → Bool → Mem → Prop) (X : List PanicEntry → Mem → Prop) : Mem → Prop :=
 K (IntKind.wrap .i32 t6_) true
def S284_3b (t0_ : Sl) (t1_ : Int) (K : Int → Bool → Mem → Prop) (X : List PanicEntry → Mem → Prop) (t6_ : Int) (t17_ : Int) (next3 : (Int × Int) → Mem → Prop) : Mem → Prop :=
 ite' (decide (t17_ < 4)) (ix t0_ 1 (IntKind.wrap .i64 (t1_ + t17_)) fun p7 => ldI .u8 p7 fun t26_8 => must (0 ≤ (IntKind.wrap .i64 (8 * t17_))) <| next3 (ior .u32 t6_ (ishl .u32 (IntKind.wrap .u32 t26_8) (IntKind.wrap .i64 (8 * t17_))), IntKind.wrap .i64 (t17_ + 1))) (S284_2 t6_ K X)
def S284_3 (t0_ : Sl) (t1_ : Int) (t6_ : Int) (t17_ : Int) (K : Int → Bool → Mem → Prop) (X : List PanicEntry → Mem → Prop) : Mem → Prop :=
 Lp (fun (s_ : (Int × Int)) next3 => S284_3b t0_ t1_ K X s_.1 s_.2 next3) (t6_, t17_)
def S284_1 (t0_ : Sl) (t1_ : Int) (t16_ : Bool) (K : Int → Bool → Mem → Prop) (X : List PanicEntry → Mem → Prop) : Mem → Prop :=
 ite' t16_ (K 0 false) (S284_3 t0_ t1_ 0 0 K X)
def S284 (t0 : Sl) (t1 : Int) (K : Int → Bool → Mem → Prop) (X : List PanicEntry → Mem → Prop) : Mem → Prop :=
 ite' (decide (t1 < 0)) (S284_1 t0 t1 true K X) (S284_1 t0 t1 (decide (t1 > (IntKind.wrap .i64 ((t0.n : Int) - 4)))) K X)
abbrev F284_3 (K : Int → Bool → Mem → Prop) (X : List PanicEntry → Mem → Prop) (e : Env) (Mp : Mem) : Prop := ∃ (t0_ : Sl) (t1_ : Int) (t6_ : Int) (t17_ : Int) (M : Mem), e.D = [] ∧ e.v 0 = Sl.v t0_ ∧ e.v 1 = .int .i64 t1_ ∧ e.v 6 = .int .u32 t6_ ∧ e.v 17 = .int .i64 t17_ ∧ Pv M [] Mp ∧ S284_3 t0_ t1_ t6_ t17_ K X M
abbrev F284_2 (K : Int → Bool → Mem → Prop) (X : List PanicEntry → Mem → Prop) (e : Env) (Mp : Mem) : Prop := ∃ (t6_ : Int) (M : Mem), e.D = [] ∧ e.v 6 = .int .u32 t6_ ∧ Pv M [] Mp ∧ S284_2 t6_ K X M
abbrev F284_1 (K : Int → Bool → Mem → Prop) (X : List PanicEntry → Mem → Prop) (e : Env) (Mp : Mem) : Prop := ∃ (t0_ : Sl) (t1_ : Int) (t16_ : Bool) (M : Mem), e.D = [] ∧ e.v 0 = Sl.v t0_ ∧ e.v 1 = .int .i64 t1_ ∧ e.v 16 = .bool t16_ ∧ Pv M [] Mp ∧ S284_1 t0_ t1_ t16_ K X M
theorem br284 {t0 : Sl} {t1 : Int} {K : Int → Bool → Mem → Prop} {X : List PanicEntry → Mem → Prop} {M : Mem} (H : S284 t0 t1 K X M) :
  Spec Tryz.prog 284 #[Sl.v t0, .int .i64 t1] M (fun v_ M => ∃ (r0 : Int) (r1 : Bool), v_ = .tuple #[.int .i32 r0, .bool r1] ∧ K r0 r1 M) X := by
 refine spec_of_J (args := [Sl.v t0, .int .i64 t1]) Tryz.func284 rfl Tryz.ntmps284 (Nat.le_of_ble_eq_true rfl) ?_
 have hD : (⟨fun i => ([Sl.v t0, .int .i64 t1] : List Value).getD i undef, []⟩ : Env).D = [] := rfl
 have hP := Pv.nil M
 have hX := @kx_of Tryz.prog Tryz.f284 (fun v_ M => ∃ (r0 : Int) (r1 : Bool), v_ = .tuple #[.int .i32 r0, .bool r1] ∧ K r0 r1 M) X
 unfold S284 at H
 refine J_seq ?_
 refine J_region (by decide) ?_
 refine JO_assign (v := .int .i32 0) rfl ?_
 refine JO_assign (v := .bool false) rfl ?_
 refine JO_nil ?_
 refine J_seq ?_
 refine J_seq ?_
 refine J_region (by decide) ?_
 refine JO_move (v := .int .i64 t1) rfl ?_
 refine JO_iop (op := .lss) (k := .i64) (a := t1) (b := 0) rfl rfl trivial ?_
 refine JO_move (v := .bool (decide (t1 < 0))) rfl ?_
 refine JO_cut 6 (F284_1 K X) ?_ ?_
 ·
  obtain ⟨H1, H2⟩ := H
  obtain hc_ | hc_ := ff_or_tt (decide (t1 < 0))
  ·
   replace H := H2 hc_
   clear H1 H2
   have hg1 := (congrArg Value.bool hc_ : Value.bool (decide (t1 < 0)) = Value.bool false)
   refine JO_on (s := 10) hg1 ?_
   refine JO_move (v := .int .i64 t1) rfl ?_
   refine JO_on (s := 10) hg1 ?_
   refine JO_move (v := Sl.v t0) rfl ?_
   refine JO_on (s := 10) hg1 ?_
   refine JO_len (s := t0) is_32 rfl ?_
   refine JO_on (s := 10) hg1 ?_
   refine JO_iop (op := .sub) (k := .i64) (a := (t0.n : Int)) (b := 4) rfl rfl trivial ?_
   refine JO_on (s := 10) hg1 ?_
   refine JO_iop (op := .gtr) (k := .i64) (a := t1) (b := IntKind.wrap .i64 ((t0.n : Int) - 4)) rfl rfl trivial ?_
   refine JO_pick (b := false) (v := .bool (decide (t1 > (IntKind.wrap .i64 ((t0.n : Int) - 4))))) hg1 rfl ?_
   refine JO_nil ?_
   exact (show F284_1 K X _ _ from ⟨t0, t1, decide (t1 > (IntKind.wrap .i64 ((t0.n : Int) - 4))), _, hD, rfl, rfl, rfl, hP, H⟩)
  ·
   replace H := H1 hc_
   clear H1 H2
   have hg2 := (congrArg Value.bool hc_ : Value.bool (decide (t1 < 0)) = Value.bool true)
   refine JO_off (s := 10) (c := true) hg2 (by decide) ?_
   refine JO_off (s := 10) (c := true) hg2 (by decide) ?_
   refine JO_off (s := 10) (c := true) hg2 (by decide) ?_
   refine JO_off (s := 10) (c := true) hg2 (by decide) ?_
   refine JO_off (s := 10) (c := true) hg2 (by decide) ?_
   refine JO_pick (b := true) (v := .bool true) hg2 rfl ?_
   refine JO_nil ?_
   exact (show F284_1 K X _ _ from ⟨t0, t1, true, _, hD, rfl, rfl, rfl, hP, H⟩)
 ·
  rintro e Mp ⟨t0_, t1_, t16_, M, hD, h0, h1, h16, hP, H⟩
  unfold S284_1 at H
  refine JO_nil ?_
  refine J_cond (t := t16_) h16 (fun hc_ => ?_) (fun hc_ => ?_)
  ·
   replace H := H.1 hc_
   clear hc_
   refine J_seq ?_
   refine J_region (by decide) ?_
   refine JO_assign (v := .int .i32 0) rfl ?_
   refine JO_assign (v := .bool false) rfl ?_
   refine JO_nil ?_
   exact J_ret (kret (pan := X)  hD (fun _ _ hb => hP.sub hb) (resOk (rs := [.tmp 4, .tmp 5]) (vs := [.int .i32 0, .bool false]) rfl ⟨item_tmp rfl, item_tmp rfl, trivial⟩) ⟨0, false, rfl, H⟩)
  ·
   replace H := H.2 hc_
   clear hc_
   refine J_skip ?_
   refine J_seq ?_
   refine J_region (by decide) ?_
   refine JO_assign (v := .int .u32 0) rfl ?_
   refine JO_nil ?_
   refine J_seq ?_
   refine J_seq ?_
   refine J_region (by decide) ?_
   refine JO_move (v := .int .i64 0) rfl ?_
   refine JO_nil ?_
   refine J_blockF (F284_2 K X) ?_ ?_
   ·
    refine J_of (F284_3 K X) (show F284_3 K X _ _ from ⟨t0_, t1_, 0, 0, _, hD, h0, h1, rfl, rfl, hP, H⟩) ?_
    rintro e Mp ⟨t0_, t1_, t6_, t17_, M, hD, h0, h1, h6, h17, hP, H⟩
    unfold S284_3 at H
    refine J_loopP (σ := (Int × Int)) (body := fun (s_ : (Int × Int)) next3 => S284_3b t0_ t1_ K X s_.1 s_.2 next3) (s := (t6_, t17_)) (M := M) (fun (s_ : (Int × Int)) (e : Env) (M Mp : Mem) => e.D = [] ∧ e.v 0 = Sl.v t0_ ∧ e.v 1 = .int .i64 t1_ ∧ e.v 6 = .int .u32 s_.1 ∧ e.v 17 = .int .i64 s_.2 ∧ Pv M [] Mp) ?_ ⟨hD, h0, h1, h6, h17, hP⟩ H
    rintro next3 ⟨t6_, t17_⟩ e M Mp ⟨hD, h0, h1, h6, h17, hP⟩ H
    replace H : S284_3b t0_ t1_ K X t6_ t17_ next3 M := H
    unfold S284_3b at H
    refine J_seq ?_
    refine J_region (by decide) ?_
    refine JO_iop (op := .lss) (k := .i64) (a := t17_) (b := 4) h17 rfl trivial ?_
    refine JO_nil ?_
    refine J_seq ?_
    refine J_cond (t := decide (t17_ < 4)) rfl (fun hc_ => ?_) (fun hc_ => ?_)
    ·
     replace H := H.1 hc_
     clear hc_
     refine J_skip ?_
     refine J_seq ?_
     refine J_block ?_
     refine J_seq ?_
     refine J_region (by decide) ?_
     refine JO_move (v := .int .i64 t17_) h17 ?_
     refine JO_assign (v := .int .i64 t17_) rfl ?_
     refine JO_nil ?_
     refine J_region (by decide) ?_
     refine JO_move (v := .int .u32 t6_) h6 ?_
     refine JO_move (v := Sl.v t0_) h0 ?_
     refine JO_move (v := .int .i64 t1_) h1 ?_
     refine JO_move (v := .int .i64 t17_) rfl ?_
     refine JO_iop (op := .add) (k := .i64) (a := t1_) (b := t17_) rfl rfl trivial ?_
     obtain ⟨a3, g4, g5, g6, H⟩ := H
     refine JO_indexAddr (s := t0_) (p := a3) (i := IntKind.wrap .i64 (t1_ + t17_)) es_32 rfl rfl g4 g5 g6 ?_
     obtain ⟨p7, hq_⟩ : ∃ q : PA, q = (a3.1, a3.2 + (IntKind.wrap .i64 (t1_ + t17_) : Int).toNat * 1) := ⟨_, rfl⟩; rw [← hq_] at H ⊢; clear hq_
     obtain ⟨t26_8, g9, H⟩ := H
     refine JO_load (p := p7) (v := .int .u8 t26_8) na_5 rfl (hP.cel g9) ?_
     refine JO_convI (k := .u8) (k' := .u32) (n := t26_8) ul_301 (tt := .int .u8) ul_5 rfl ?_
     refine JO_move (v := .int .i64 t17_) rfl ?_
     refine JO_iop (op := .mul) (k := .i64) (a := 8) (b := t17_) rfl rfl trivial ?_
     obtain ⟨g10, H⟩ := H
     refine JO_shift (op := .shl) (k := .u32) (a := IntKind.wrap .u32 t26_8) (b := IntKind.wrap .i64 (8 * t17_)) (.inl rfl) rfl rfl g10 ?_
     refine JO_iop (op := .or) (k := .u32) (a := t6_) (b := ishl .u32 (IntKind.wrap .u32 t26_8) (IntKind.wrap .i64 (8 * t17_))) rfl rfl trivial ?_
     refine JO_assign (v := .int .u32 (ior .u32 t6_ (ishl .u32 (IntKind.wrap .u32 t26_8) (IntKind.wrap .i64 (8 * t17_))))) rfl ?_
     refine JO_nil ?_
     refine J_region (by decide) ?_
     refine JO_iop (op := .add) (k := .i64) (a := t17_) (b := 1) h17 rfl trivial ?_
     refine JO_move (v := .int .i64 (IntKind.wrap .i64 (t17_ + 1))) rfl ?_
     refine JO_nil ?_
     exact ⟨(ior .u32 t6_ (ishl .u32 (IntKind.wrap .u32 t26_8) (IntKind.wrap .i64 (8 * t17_))), IntKind.wrap .i64 (t17_ + 1)), _, ⟨hD, h0, h1, rfl, rfl, hP⟩, H⟩
    ·
     replace H := H.2 hc_
     clear hc_
     refine J_exit ?_
     exact (show F284_2 K X _ _ from ⟨t6_, _, hD, h6, hP, H⟩)
   ·
    rintro e Mp ⟨t6_, M, hD, h6, hP, H⟩
    unfold S284_2 at H
    refine J_seq ?_
    refine J_region (by decide) ?_
    refine JO_move (v := .int .u32 t6_) h6 ?_
    refine JO_convI (k := .u32) (k' := .i32) (n := t6_) ul_21 (tt := .int .u32) ul_301 rfl ?_
    refine JO_assign (v := .int .i32 (IntKind.wrap .i32 t6_)) rfl ?_
    refine JO_assign (v := .bool true) rfl ?_
    refine JO_nil ?_
    exact J_ret (kret (pan := X)  hD (fun _ _ hb => hP.sub hb) (resOk (rs := [.tmp 4, .tmp 5]) (vs := [.int .i32 (IntKind.wrap .i32 t6_), .bool true]) rfl ⟨item_tmp rfl, item_tmp rfl, trivial⟩) ⟨IntKind.wrap .i32 t6_, true, rfl, H⟩)

/-! brazier/word.digit -/
def S330 (t0 : Int) (K : Int → Mem → Prop) (X : List PanicEntry → Mem → Prop) : Mem → Prop :=
 ite' (decide (t0 < 10)) (K (IntKind.wrap .u8 (48 + t0))) (K (IntKind.wrap .u8 ((IntKind.wrap .u8 (97 + t0)) - 10)))
theorem br330 {t0 : Int} {K : Int → Mem → Prop} {X : List PanicEntry → Mem → Prop} {M : Mem} (H : S330 t0 K X M) :
  Spec Tryz.prog 330 #[.int .u8 t0] M (fun v_ M => ∃ (r0 : Int), v_ = .int .u8 r0 ∧ K r0 M) X := by
 refine spec_of_J (args := [.int .u8 t0]) Tryz.func330 rfl Tryz.ntmps330 (Nat.le_of_ble_eq_true rfl) ?_
 have hD : (⟨fun i => ([.int .u8 t0] : List Value).getD i undef, []⟩ : Env).D = [] := rfl
 have hP := Pv.nil M
 have hX := @kx_of Tryz.prog Tryz.f330 (fun v_ M => ∃ (r0 : Int), v_ = .int .u8 r0 ∧ K r0 M) X
 unfold S330 at H
 refine J_seq ?_
 refine J_region (by decide) ?_
 refine JO_assign (v := .int .u8 0) rfl ?_
 refine JO_nil ?_
 refine J_seq ?_
 refine J_seq ?_
 refine J_region (by decide) ?_
 refine JO_move (v := .int .u8 t0) rfl ?_
 refine JO_iop (op := .lss) (k := .u8) (a := t0) (b := 10) rfl rfl trivial ?_
 refine JO_nil ?_
 refine J_cond (t := decide (t0 < 10)) rfl (fun hc_ => ?_) (fun hc_ => ?_)
 ·
  replace H := H.1 hc_
  clear hc_
  refine J_seq ?_
  refine J_region (by decide) ?_
  refine JO_move (v := .int .u8 t0) rfl ?_
  refine JO_iop (op := .add) (k := .u8) (a := 48) (b := t0) rfl rfl trivial ?_
  refine JO_assign (v := .int .u8 (IntKind.wrap .u8 (48 + t0))) rfl ?_
  refine JO_nil ?_
  exact J_ret (kret (pan := X)  hD (fun _ _ hb => hP.sub hb) (resOk (rs := [.tmp 2]) (vs := [.int .u8 (IntKind.wrap .u8 (48 + t0))]) rfl ⟨item_tmp rfl, trivial⟩) ⟨IntKind.wrap .u8 (48 + t0), rfl, H⟩)
 ·
  replace H := H.2 hc_
  clear hc_
  refine J_skip ?_
  refine J_seq ?_
  refine J_region (by decide) ?_
  refine JO_move (v := .int .u8 t0) rfl ?_
  refine JO_iop (op := .add) (k := .u8) (a := 97) (b := t0) rfl rfl trivial ?_
  refine JO_iop (op := .sub) (k := .u8) (a := IntKind.wrap .u8 (97 + t0)) (b := 10) rfl rfl trivial ?_
  refine JO_assign (v := .int .u8 (IntKind.wrap .u8 ((IntKind.wrap .u8 (97 + t0)) - 10))) rfl ?_
  refine JO_nil ?_
  exact J_ret (kret (pan := X)  hD (fun _ _ hb => hP.sub hb) (resOk (rs := [.tmp 2]) (vs := [.int .u8 (IntKind.wrap .u8 ((IntKind.wrap .u8 (97 + t0)) - 10))]) rfl ⟨item_tmp rfl, trivial⟩) ⟨IntKind.wrap .u8 ((IntKind.wrap .u8 (97 + t0)) - 10), rfl, H⟩)

/-! slices.rotateRight[int] -/
/-! (brazier/digest.state).blocks -/
def S364_1 (t1_ : Sl) (b4_c0 : Int) (b4_c1 : Int) (b4_c2 : Int) (b4_c3 : Int) (b4_c4 : Int) (b4_c5 : Int) (b4_c6 : Int) (b4_c7 : Int) (b2_c0 : Int) (b2_c1 : Int) (b2_c2 : Int) (b2_c3 : Int) (b2_c4 : Int) (b2_c5 : Int) (b2_c6 : Int) (b2_c7 : Int) (K : Int → Int → Int → Int → Int → Int → Int → Int → Sl → Mem → Prop) (X : List PanicEntry → Mem → Prop) : Mem → Prop :=
 K b2_c0 b2_c1 b2_c2 b2_c3 b2_c4 b2_c5 b2_c6 b2_c7 t1_
def S364_2b (b4_c0 : Int) (b4_c1 : Int) (b4_c2 : Int) (b4_c3 : Int) (b4_c4 : Int) (b4_c5 : Int) (b4_c6 : Int) (b4_c7 : Int) (K : Int → Int → Int → Int → Int → Int → Int → Int → Sl → Mem → Prop) (X : List PanicEntry → Mem → Prop) (t1_ : Sl) (b2_c0 : Int) (b2_c1 : Int) (b2_c2 : Int) (b2_c3 : Int) (b2_c4 : Int) (b2_c5 : Int) (b2_c6 : Int) (b2_c7 : Int) (next2 : (Sl × Int × Int × Int × Int × Int × Int × Int × Int) → Mem → Prop) : Mem → Prop :=
 ite' (decide ((t1_.n : Int) ≥ 64)) (must (0 ≤ (0 : Int) ∧ (0 : Int) ≤ (64 : Int) ∧ (64 : Int) ≤ (64 : Int) ∧ (64 : Int) ≤ (t1_.c : Int)) <| call 385 [.agg #[.int .u32 b2_c0, .int .u32 b2_c1, .int .u32 b2_c2, .int .u32 b2_c3, .int .u32 b2_c4, .int .u32 b2_c5, .int .u32 b2_c6, .int .u32 b2_c7], Sl.v (Sl.cut t1_ 1 (0 : Int) (64 : Int) (64 : Int))] (fun _ _ => False) fun v_ M => ∃ (r4_0 : Int) (r4_1 : Int) (r4_2 : Int) (r4_3 : Int) (r4_4 : Int) (r4_5 : Int) (r4_6 : Int) (r4_7 : Int), v_ = .agg #[.int .u32 r4_0, .int .u32 r4_1, .int .u32 r4_2, .int .u32 r4_3, .int .u32 r4_4, .int .u32 r4_5, .int .u32 r4_6, .int .u32 r4_7] ∧ ( must (0 ≤ (64 : Int) ∧ (64 : Int) ≤ (t1_.n : Int) ∧ True ∧ (t1_.c : Int) ≤ (t1_.c : Int)) <| next2 (Sl.cut t1_ 1 (64 : Int) (t1_.n : Int) (t1_.c : Int), r4_0, r4_1, r4_2, r4_3, r4_4, r4_5, r4_6, r4_7)) M) (S364_1 t1_ b4_c0 b4_c1 b4_c2 b4_c3 b4_c4 b4_c5 b4_c6 b4_c7 b2_c0 b2_c1 b2_c2 b2_c3 b2_c4 b2_c5 b2_c6 b2_c7 K X)
def S364_2 (t1_ : Sl) (b4_c0 : Int) (b4_c1 : Int) (b4_c2 : Int) (b4_c3 : Int) (b4_c4 : Int) (b4_c5 : Int) (b4_c6 : Int) (b4_c7 : Int) (b2_c0 : Int) (b2_c1 : Int) (b2_c2 : Int) (b2_c3 : Int) (b2_c4 : Int) (b2_c5 : Int) (b2_c6 : Int) (b2_c7 : Int) (K : Int → Int → Int → Int → Int → Int → Int → Int → Sl → Mem → Prop) (X : List PanicEntry → Mem → Prop) : Mem → Prop :=
 Lp (fun (s_ : (Sl × Int × Int × Int × Int × Int × Int × Int × Int)) next2 => S364_2b b4_c0 b4_c1 b4_c2 b4_c3 b4_c4 b4_c5 b4_c6 b4_c7 K X s_.1 s_.2.1 s_.2.2.1 s_.2.2.2.1 s_.2.2.2.2.1 s_.2.2.2.2.2.1 s_.2.2.2.2.2.2.1 s_.2.2.2.2.2.2.2.1 s_.2.2.2.2.2.2.2.2 next2) (t1_, b2_c0, b2_c1, b2_c2, b2_c3, b2_c4, b2_c5, b2_c6, b2_c7)
def S364 (t0_0 : Int) (t0_1 : Int) (t0_2 : Int) (t0_3 : Int) (t0_4 : Int) (t0_5 : Int) (t0_6 : Int) (t0_7 : Int) (t1 : Sl) (K : Int → Int → Int → Int → Int → Int → Int → Int → Sl → Mem → Prop) (X : List PanicEntry → Mem → Prop) : Mem → Prop :=
 S364_2 t1 0 0 0 0 0 0 0 0 t0_0 t0_1 t0_2 t0_3 t0_4 t0_5 t0_6 t0_7 K X
abbrev F364_2 (K : Int → Int → Int → Int → Int → Int → Int → Int → Sl → Mem → Prop) (X : List PanicEntry → Mem → Prop) (e : Env) (Mp : Mem) : Prop := ∃ (t1_ : Sl) (b2_ : Nat) (b4_ : Nat) (b4_c0 : Int) (b4_c1 : Int) (b4_c2 : Int) (b4_c3 : Int) (b4_c4 : Int) (b4_c5 : Int) (b4_c6 : Int) (b4_c7 : Int) (b2_c0 : Int) (b2_c1 : Int) (b2_c2 : Int) (b2_c3 : Int) (b2_c4 : Int) (b2_c5 : Int) (b2_c6 : Int) (b2_c7 : Int) (M : Mem), e.D = [] ∧ e.v 1 = Sl.v t1_ ∧ e.v 2 = ptr (some (b2_, 0)) ∧ e.v 4 = ptr (some (b4_, 0)) ∧ Pv M [(b4_, .cells #[.int .u32 b4_c0, .int .u32 b4_c1, .int .u32 b4_c2, .int .u32 b4_c3, .int .u32 b4_c4, .int .u32 b4_c5, .int .u32 b4_c6, .int .u32 b4_c7] 431 (0, 0)), (b2_, .cells #[.int .u32 b2_c0, .int .u32 b2_c1, .int .u32 b2_c2, .int .u32 b2_c3, .int .u32 b2_c4, .int .u32 b2_c5, .int .u32 b2_c6, .int .u32 b2_c7] 431 (0, 0))] Mp ∧ S364_2 t1_ b4_c0 b4_c1 b4_c2 b4_c3 b4_c4 b4_c5 b4_c6 b4_c7 b2_c0 b2_c1 b2_c2 b2_c3 b2_c4 b2_c5 b2_c6 b2_c7 K X M
abbrev F364_1 (K : Int → Int → Int → Int → Int → Int → Int → Int → Sl → Mem → Prop) (X : List PanicEntry → Mem → Prop) (e : Env) (Mp : Mem) : Prop := ∃ (t1_ : Sl) (b2_ : Nat) (b4_ : Nat) (b4_c0 : Int) (b4_c1 : Int) (b4_c2 : Int) (b4_c3 : Int) (b4_c4 : Int) (b4_c5 : Int) (b4_c6 : Int) (b4_c7 : Int) (b2_c0 : Int) (b2_c1 : Int) (b2_c2 : Int) (b2_c3 : Int) (b2_c4 : Int) (b2_c5 : Int) (b2_c6 : Int) (b2_c7 : Int) (M : Mem), e.D = [] ∧ e.v 1 = Sl.v t1_ ∧ e.v 2 = ptr (some (b2_, 0)) ∧ e.v 4 = ptr (some (b4_, 0)) ∧ Pv M [(b4_, .cells #[.int .u32 b4_c0, .int .u32 b4_c1, .int .u32 b4_c2, .int .u32 b4_c3, .int .u32 b4_c4, .int .u32 b4_c5, .int .u32 b4_c6, .int .u32 b4_c7] 431 (0, 0)), (b2_, .cells #[.int .u32 b2_c0, .int .u32 b2_c1, .int .u32 b2_c2, .int .u32 b2_c3, .int .u32 b2_c4, .int .u32 b2_c5, .int .u32 b2_c6, .int .u32 b2_c7] 431 (0, 0))] Mp ∧ S364_1 t1_ b4_c0 b4_c1 b4_c2 b4_c3 b4_c4 b4_c5 b4_c6 b4_c7 b2_c0 b2_c1 b2_c2 b2_c3 b2_c4 b2_c5 b2_c6 b2_c7 K X M
theorem br364 {t0_0 : Int} {t0_1 : Int} {t0_2 : Int} {t0_3 : Int} {t0_4 : Int} {t0_5 : Int} {t0_6 : Int} {t0_7 : Int} {t1 : Sl} {K : Int → Int → Int → Int → Int → Int → Int → Int → Sl → Mem → Prop} {X : List PanicEntry → Mem → Prop} {M : Mem} (H : S364 t0_0 t0_1 t0_2 t0_3 t0_4 t0_5 t0_6 t0_7 t1 K X M) :
  Spec Tryz.prog 364 #[.agg #[.int .u32 t0_0, .int .u32 t0_1, .int .u32 t0_2, .int .u32 t0_3, .int .u32 t0_4, .int .u32 t0_5, .int .u32 t0_6, .int .u32 t0_7], Sl.v t1] M (fun v_ M => ∃ (r0_0 : Int) (r0_1 : Int) (r0_2 : Int) (r0_3 : Int) (r0_4 : Int) (r0_5 : Int) (r0_6 : Int) (r0_7 : Int) (r1 : Sl), v_ = .tuple #[.agg #[.int .u32 r0_0, .int .u32 r0_1, .int .u32 r0_2, .int .u32 r0_3, .int .u32 r0_4, .int .u32 r0_5, .int .u32 r0_6, .int .u32 r0_7], Sl.v r1] ∧ K r0_0 r0_1 r0_2 r0_3 r0_4 r0_5 r0_6 r0_7 r1 M) X := by
 refine spec_of_J (args := [.agg #[.int .u32 t0_0, .int .u32 t0_1, .int .u32 t0_2, .int .u32 t0_3, .int .u32 t0_4, .int .u32 t0_5, .int .u32 t0_6, .int .u32 t0_7], Sl.v t1]) Tryz.func364 rfl Tryz.ntmps364 (Nat.le_of_ble_eq_true rfl) ?_
 have hD : (⟨fun i => ([.agg #[.int .u32 t0_0, .int .u32 t0_1, .int .u32 t0_2, .int .u32 t0_3, .int .u32 t0_4, .int .u32 t0_5, .int .u32 t0_6, .int .u32 t0_7], Sl.v t1] : List Value).getD i undef, []⟩ : Env).D = [] := rfl
 have hP := Pv.nil M
 have hX := @kx_of Tryz.prog Tryz.f364 (fun v_ M => ∃ (r0_0 : Int) (r0_1 : Int) (r0_2 : Int) (r0_3 : Int) (r0_4 : Int) (r0_5 : Int) (r0_6 : Int) (r0_7 : Int) (r1 : Sl), v_ = .tuple #[.agg #[.int .u32 r0_0, .int .u32 r0_1, .int .u32 r0_2, .int .u32 r0_3, .int .u32 r0_4, .int .u32 r0_5, .int .u32 r0_6, .int .u32 r0_7], Sl.v r1] ∧ K r0_0 r0_1 r0_2 r0_3 r0_4 r0_5 r0_6 r0_7 r1 M) X
 unfold S364 at H
 refine J_seq ?_
 refine J_region (by decide) ?_
 refine JO_box (v := .agg #[.int .u32 t0_0, .int .u32 t0_1, .int .u32 t0_2, .int .u32 t0_3, .int .u32 t0_4, .int .u32 t0_5, .int .u32 t0_6, .int .u32 t0_7]) rfl ?_
 intro b1 hb
 replace hP : Pv _ [(b1, .cells #[.int .u32 t0_0, .int .u32 t0_1, .int .u32 t0_2, .int .u32 t0_3, .int .u32 t0_4, .int .u32 t0_5, .int .u32 t0_6, .int .u32 t0_7] 431 (0, 0))] _ := hP.box hb _
 refine JO_alloc (cs := [.int .u32 0, .int .u32 0, .int .u32 0, .int .u32 0, .int .u32 0, .int .u32 0, .int .u32 0, .int .u32 0]) zc_431 ?_
 intro b2 hb
 replace hP : Pv _ [(b2, .cells #[.int .u32 0, .int .u32 0, .int .u32 0, .int .u32 0, .int .u32 0, .int .u32 0, .int .u32 0, .int .u32 0] 431 (0, 0)), (b1, .cells #[.int .u32 t0_0, .int .u32 t0_1, .int .u32 t0_2, .int .u32 t0_3, .int .u32 t0_4, .int .u32 t0_5, .int .u32 t0_6, .int .u32 t0_7] 431 (0, 0))] _ := hP.box hb _
 refine JO_assign (v := Sl.v (⟨none, 0, 0⟩ : Sl)) rfl ?_
 refine JO_nil ?_
 refine J_seq ?_
 refine J_blockF (F364_1 K X) ?_ ?_
 ·
  refine J_of (F364_2 K X) (show F364_2 K X _ _ from ⟨t1, b1, b2, 0, 0, 0, 0, 0, 0, 0, 0, t0_0, t0_1, t0_2, t0_3, t0_4, t0_5, t0_6, t0_7, _, hD, rfl, rfl, rfl, hP, H⟩) ?_
  rintro e Mp ⟨t1_, b2_, b4_, b4_c0, b4_c1, b4_c2, b4_c3, b4_c4, b4_c5, b4_c6, b4_c7, b2_c0, b2_c1, b2_c2, b2_c3, b2_c4, b2_c5, b2_c6, b2_c7, M, hD, h1, h2, h4, hP, H⟩
  unfold S364_2 at H
  refine J_loopP (σ := (Sl × Int × Int × Int × Int × Int × Int × Int × Int)) (body := fun (s_ : (Sl × Int × Int × Int × Int × Int × Int × Int × Int)) next2 => S364_2b b4_c0 b4_c1 b4_c2 b4_c3 b4_c4 b4_c5 b4_c6 b4_c7 K X s_.1 s_.2.1 s_.2.2.1 s_.2.2.2.1 s_.2.2.2.2.1 s_.2.2.2.2.2.1 s_.2.2.2.2.2.2.1 s_.2.2.2.2.2.2.2.1 s_.2.2.2.2.2.2.2.2 next2) (s := (t1_, b2_c0, b2_c1, b2_c2, b2_c3, b2_c4, b2_c5, b2_c6, b2_c7)) (M := M) (fun (s_ : (Sl × Int × Int × Int × Int × Int × Int × Int × Int)) (e : Env) (M Mp : Mem) => e.D = [] ∧ e.v 1 = Sl.v s_.1 ∧ e.v 2 = ptr (some (b2_, 0)) ∧ e.v 4 = ptr (some (b4_, 0)) ∧ Pv M [(b4_, .cells #[.int .u32 b4_c0, .int .u32 b4_c1, .int .u32 b4_c2, .int .u32 b4_c3, .int .u32 b4_c4, .int .u32 b4_c5, .int .u32 b4_c6, .int .u32 b4_c7] 431 (0, 0)), (b2_, .cells #[.int .u32 s_.2.1, .int .u32 s_.2.2.1, .int .u32 s_.2.2.2.1, .int .u32 s_.2.2.2.2.1, .int .u32 s_.2.2.2.2.2.1, .int .u32 s_.2.2.2.2.2.2.1, .int .u32 s_.2.2.2.2.2.2.2.1, .int .u32 s_.2.2.2.2.2.2.2.2] 431 (0, 0))] Mp) ?_ ⟨hD, h1, h2, h4, hP⟩ H
  rintro next2 ⟨t1_, b2_c0, b2_c1, b2_c2, b2_c3, b2_c4, b2_c5, b2_c6, b2_c7⟩ e M Mp ⟨hD, h1, h2, h4, hP⟩ H
  replace H : S364_2b b4_c0 b4_c1 b4_c2 b4_c3 b4_c4 b4_c5 b4_c6 b4_c7 K X t1_ b2_c0 b2_c1 b2_c2 b2_c3 b2_c4 b2_c5 b2_c6 b2_c7 next2 M := H
  unfold S364_2b at H
  refine J_seq ?_
  refine J_seq ?_
  refine J_region (by decide) ?_
  refine JO_move (v := Sl.v t1_) h1 ?_
  refine JO_len (s := t1_) is_32 rfl ?_
  refine JO_iop (op := .geq) (k := .i64) (a := (t1_.n : Int)) (b := 64) rfl rfl trivial ?_
  refine JO_nil ?_
  refine J_cond (t := decide ((t1_.n : Int) ≥ 64)) rfl (fun hc_ => ?_) (fun hc_ => ?_)
  ·
   replace H := H.1 hc_
   clear hc_
   refine J_skip ?_
   refine J_block ?_
   refine J_seq ?_
   refine J_draw [1, 0, 0, 3, 3] (.cho 1 (.cho 2 (.cho 0 (.cho 3 (.cho 4 .done .none) .none) .none) .none) .none) rfl (by kernel_rfl) ?_
   refine JE_one ?_
   refine ST0 (fun _ h => by cases h) (fun w => OV_move (v := Sl.v t1_) (by exact h1) w) ?_
   refine JE_one ?_
   obtain ⟨g3, H⟩ := H
   refine ST0 (fun _ h => by cases h) (fun w => OV_slice (s := t1_) (l := (0 : Int)) (h := (64 : Int)) (m := (64 : Int)) es_32 rfl (by exact ⟨_, rfl⟩) (by exact ⟨_, rfl⟩) (by exact rfl) g3.1 g3.2.1 (fun _ => g3.2.2.1) g3.2.2.2 (by simp) w) ?_
   refine JE_one ?_
   refine ST1 (fun _ h => by cases h) (fun w hs => OV_loadAgg (p := (b2_, 0)) (cs := [.int .u32 b2_c0, .int .u32 b2_c1, .int .u32 b2_c2, .int .u32 b2_c3, .int .u32 b2_c4, .int .u32 b2_c5, .int .u32 b2_c6, .int .u32 b2_c7]) ag_431 (Nat.succ_pos _) (by exact h2) (cels_of (b := b2_) (o := 0) ⟨celOf (hP.get 1 rfl) rfl, celOf (hP.get 1 rfl) rfl, celOf (hP.get 1 rfl) rfl, celOf (hP.get 1 rfl) rfl, celOf (hP.get 1 rfl) rfl, celOf (hP.get 1 rfl) rfl, celOf (hP.get 1 rfl) rfl, celOf (hP.get 1 rfl) rfl, trivial⟩) w hs) ?_
   refine JE_one ?_
   refine ST3 ?_
   refine JO_call Tryz.call385 (vs := [.agg #[.int .u32 b2_c0, .int .u32 b2_c1, .int .u32 b2_c2, .int .u32 b2_c3, .int .u32 b2_c4, .int .u32 b2_c5, .int .u32 b2_c6, .int .u32 b2_c7], Sl.v (Sl.cut t1_ 1 (0 : Int) (64 : Int) (64 : Int))]) (mc rfl (mc rfl mn)) ((hP.spec H).mono ?_ (fun _ _ ⟨_, _, f⟩ => f.elim))
   rintro v Mp ⟨M, hP, r4_0, r4_1, r4_2, r4_3, r4_4, r4_5, r4_6, r4_7, rfl, H⟩
   refine Kd_nil ?_
   refine JE_one ?_
   refine ST3 ?_
   refine JO_storeAgg (p := (b2_, 0)) (cs := [.int .u32 r4_0, .int .u32 r4_1, .int .u32 r4_2, .int .u32 r4_3, .int .u32 r4_4, .int .u32 r4_5, .int .u32 r4_6, .int .u32 r4_7]) sz_431 (by exact h2) rfl (all_cons rfl (all_cons rfl (all_cons rfl (all_cons rfl (all_cons rfl (all_cons rfl (all_cons rfl (all_cons rfl all_nil)))))))) (fun j hj => wrOf (hP.get 1 rfl) (by simp at hj ⊢; omega) (by simp)) ?_
   replace hP : Pv _ [(b4_, .cells #[.int .u32 b4_c0, .int .u32 b4_c1, .int .u32 b4_c2, .int .u32 b4_c3, .int .u32 b4_c4, .int .u32 b4_c5, .int .u32 b4_c6, .int .u32 b4_c7] 431 (0, 0)), (b2_, .cells #[.int .u32 r4_0, .int .u32 r4_1, .int .u32 r4_2, .int .u32 r4_3, .int .u32 r4_4, .int .u32 r4_5, .int .u32 r4_6, .int .u32 r4_7] 431 (0, 0))] _ := Pv.stosL (i := 1) [.int .u32 r4_0, .int .u32 r4_1, .int .u32 r4_2, .int .u32 r4_3, .int .u32 r4_4, .int .u32 r4_5, .int .u32 r4_6, .int .u32 r4_7] [.int .u32 b2_c0, .int .u32 b2_c1, .int .u32 b2_c2, .int .u32 b2_c3, .int .u32 b2_c4, .int .u32 b2_c5, .int .u32 b2_c6, .int .u32 b2_c7] 0 _ _ hP rfl
   refine Kd_nil ?_
   refine JE_done ?_
   refine J_region (by decide) ?_
   refine JO_move (v := Sl.v t1_) h1 ?_
   obtain ⟨g5, H⟩ := H
   refine JO_slice (s := t1_) (l := (64 : Int)) (h := (t1_.n : Int)) (m := (t1_.c : Int)) es_32 rfl rfl rfl ⟨_, rfl⟩ g5.1 g5.2.1 (by simp) g5.2.2.2 (by simp) ?_
   refine JO_assign (v := Sl.v (Sl.cut t1_ 1 (64 : Int) (t1_.n : Int) (t1_.c : Int))) rfl ?_
   refine JO_nil ?_
   exact ⟨(Sl.cut t1_ 1 (64 : Int) (t1_.n : Int) (t1_.c : Int), r4_0, r4_1, r4_2, r4_3, r4_4, r4_5, r4_6, r4_7), _, ⟨hD, rfl, h2, h4, hP⟩, H⟩
  ·
   replace H := H.2 hc_
   clear hc_
   refine J_exit ?_
   exact (show F364_1 K X _ _ from ⟨t1_, b2_, b4_, b4_c0, b4_c1, b4_c2, b4_c3, b4_c4, b4_c5, b4_c6, b4_c7, b2_c0, b2_c1, b2_c2, b2_c3, b2_c4, b2_c5, b2_c6, b2_c7, _, hD, h1, h2, h4, hP, H⟩)
 ·
  rintro e Mp ⟨t1_, b2_, b4_, b4_c0, b4_c1, b4_c2, b4_c3, b4_c4, b4_c5, b4_c6, b4_c7, b2_c0, b2_c1, b2_c2, b2_c3, b2_c4, b2_c5, b2_c6, b2_c7, M, hD, h1, h2, h4, hP, H⟩
  unfold S364_1 at H
  refine J_seq ?_
  refine J_region (by decide) ?_
  refine JO_loadAgg (p := (b2_, 0)) (cs := [.int .u32 b2_c0, .int .u32 b2_c1, .int .u32 b2_c2, .int .u32 b2_c3, .int .u32 b2_c4, .int .u32 b2_c5, .int .u32 b2_c6, .int .u32 b2_c7]) ag_431 (Nat.succ_pos _) h2 (cels_of (b := b2_) (o := 0) ⟨celOf (hP.get 1 rfl) rfl, celOf (hP.get 1 rfl) rfl, celOf (hP.get 1 rfl) rfl, celOf (hP.get 1 rfl) rfl, celOf (hP.get 1 rfl) rfl, celOf (hP.get 1 rfl) rfl, celOf (hP.get 1 rfl) rfl, celOf (hP.get 1 rfl) rfl, trivial⟩) ?_
  refine JO_move (v := Sl.v t1_) h1 ?_
  refine JO_storeAgg (p := (b4_, 0)) (cs := [.int .u32 b2_c0, .int .u32 b2_c1, .int .u32 b2_c2, .int .u32 b2_c3, .int .u32 b2_c4, .int .u32 b2_c5, .int .u32 b2_c6, .int .u32 b2_c7]) sz_431 h4 rfl (all_cons rfl (all_cons rfl (all_cons rfl (all_cons rfl (all_cons rfl (all_cons rfl (all_cons rfl (all_cons rfl all_nil)))))))) (fun j hj => wrOf (hP.get 0 rfl) (by simp at hj ⊢; omega) (by simp)) ?_
  replace hP : Pv _ [(b4_, .cells #[.int .u32 b2_c0, .int .u32 b2_c1, .int .u32 b2_c2, .int .u32 b2_c3, .int .u32 b2_c4, .int .u32 b2_c5, .int .u32 b2_c6, .int .u32 b2_c7] 431 (0, 0)), (b2_, .cells #[.int .u32 b2_c0, .int .u32 b2_c1, .int .u32 b2_c2, .int .u32 b2_c3, .int .u32 b2_c4, .int .u32 b2_c5, .int .u32 b2_c6, .int .u32 b2_c7] 431 (0, 0))] _ := Pv.stosL (i := 0) [.int .u32 b2_c0, .int .u32 b2_c1, .int .u32 b2_c2, .int .u32 b2_c3, .int .u32 b2_c4, .int .u32 b2_c5, .int .u32 b2_c6, .int .u32 b2_c7] [.int .u32 b4_c0, .int .u32 b4_c1, .int .u32 b4_c2, .int .u32 b4_c3, .int .u32 b4_c4, .int .u32 b4_c5, .int .u32 b4_c6, .int .u32 b4_c7] 0 _ _ hP rfl
  refine JO_assign (v := Sl.v t1_) rfl ?_
  refine JO_nil ?_
  exact J_ret (kret (pan := X)  hD (fun _ _ hb => hP.sub hb) (resOk (rs := [.cell 4 431, .tmp 5]) (vs := [.agg #[.int .u32 b2_c0, .int .u32 b2_c1, .int .u32 b2_c2, .int .u32 b2_c3, .int .u32 b2_c4, .int .u32 b2_c5, .int .u32 b2_c6, .int .u32 b2_c7], Sl.v t1_]) rfl ⟨item_cellAgg (p := (b4_, 0)) (cs := [.int .u32 b2_c0, .int .u32 b2_c1, .int .u32 b2_c2, .int .u32 b2_c3, .int .u32 b2_c4, .int .u32 b2_c5, .int .u32 b2_c6, .int .u32 b2_c7]) ag_431 (Nat.succ_pos _) (by exact h4) (cels_of (b := b4_) (o := 0) ⟨celOf (hP.get 0 rfl) rfl, celOf (hP.get 0 rfl) rfl, celOf (hP.get 0 rfl) rfl, celOf (hP.get 0 rfl) rfl, celOf (hP.get 0 rfl) rfl, celOf (hP.get 0 rfl) rfl, celOf (hP.get 0 rfl) rfl, celOf (hP.get 0 rfl) rfl, trivial⟩), item_tmp rfl, trivial⟩) ⟨b2_c0, b2_c1, b2_c2, b2_c3, b2_c4, b2_c5, b2_c6, b2_c7, t1_, rfl, H⟩)

/-! (brazier/digest.state).block -/
def S385_3 (a7_ : PA) (b4_c0 : Int) (b4_c1 : Int) (b4_c2 : Int) (b4_c3 : Int) (b4_c4 : Int) (b4_c5 : Int) (b4_c6 : Int) (b4_c7 : Int) (K : Int → Int → Int → Int → Int → Int → Int → Int → Mem → Prop) (X : List PanicEntry → Mem → Prop) : Mem → Prop :=
 ldI .u32 (a7_.1, a7_.2) fun t110_0 => ldI .u32 (a7_.1, a7_.2 + 1) fun t110_1 => ldI .u32 (a7_.1, a7_.2 + 2) fun t110_2 => ldI .u32 (a7_.1, a7_.2 + 3) fun t110_3 => ldI .u32 (a7_.1, a7_.2 + 4) fun t110_4 => ldI .u32 (a7_.1, a7_.2 + 5) fun t110_5 => ldI .u32 (a7_.1, a7_.2 + 6) fun t110_6 => ldI .u32 (a7_.1, a7_.2 + 7) fun t110_7 => K t110_0 t110_1 t110_2 t110_3 t110_4 t110_5 t110_6 t110_7
def S385_4b (a2_ : PA) (a7_ : PA) (b4_c0 : Int) (b4_c1 : Int) (b4_c2 : Int) (b4_c3 : Int) (b4_c4 : Int) (b4_c5 : Int) (b4_c6 : Int) (b4_c7 : Int) (K : Int → Int → Int → Int → Int → Int → Int → Int → Mem → Prop) (X : List PanicEntry → Mem → Prop) (t98_ : Int) (next4 : Int → Mem → Prop) : Mem → Prop :=
 ite' (decide (t98_ < 8)) (ixA a7_ 8 1 t98_ fun p70 => ixA a2_ 8 1 t98_ fun p73 => ldI .u32 p70 fun t103_74 => ldI .u32 p73 fun t106_76 => ixA a7_ 8 1 t98_ fun p80 => st p80 (.int .u32 (IntKind.wrap .u32 (t103_74 + t106_76))) <| next4 (IntKind.wrap .i64 (t98_ + 1))) (S385_3 a7_ b4_c0 b4_c1 b4_c2 b4_c3 b4_c4 b4_c5 b4_c6 b4_c7 K X)
def S385_4 (a2_ : PA) (a7_ : PA) (t98_ : Int) (b4_c0 : Int) (b4_c1 : Int) (b4_c2 : Int) (b4_c3 : Int) (b4_c4 : Int) (b4_c5 : Int) (b4_c6 : Int) (b4_c7 : Int) (K : Int → Int → Int → Int → Int → Int → Int → Int → Mem → Prop) (X : List PanicEntry → Mem → Prop) : Mem → Prop :=
 Lp (fun (s_ : Int) next4 => S385_4b a2_ a7_ b4_c0 b4_c1 b4_c2 b4_c3 b4_c4 b4_c5 b4_c6 b4_c7 K X s_ next4) t98_
def S385_1 (a2_ : PA) (a7_ : PA) (b4_c0 : Int) (b4_c1 : Int) (b4_c2 : Int) (b4_c3 : Int) (b4_c4 : Int) (b4_c5 : Int) (b4_c6 : Int) (b4_c7 : Int) (K : Int → Int → Int → Int → Int → Int → Int → Int → Mem → Prop) (X : List PanicEntry → Mem → Prop) : Mem → Prop :=
 S385_4 a2_ a7_ 0 b4_c0 b4_c1 b4_c2 b4_c3 b4_c4 b4_c5 b4_c6 b4_c7 K X
def S385_2b (a2_ : PA) (a5_ : PA) (a6_ : PA) (a7_ : PA) (b4_c0 : Int) (b4_c1 : Int) (b4_c2 : Int) (b4_c3 : Int) (b4_c4 : Int) (b4_c5 : Int) (b4_c6 : Int) (b4_c7 : Int) (K : Int → Int → Int → Int → Int → Int → Int → Int → Mem → Prop) (X : List PanicEntry → Mem → Prop) (t18_ : Int) (next2 : Int → Mem → Prop) : Mem → Prop :=
 ite' (decide (t18_ < 64)) (ldI .u32 (a7_.1, a7_.2 + 4) fun t22_23 => ldI .u32 a7_ fun t24_25 => ixA a6_ 64 1 t18_ fun p29 => ixA a5_ 64 1 t18_ fun p32 => ldI .u32 (a7_.1, a7_.2 + 7) fun t26_33 => ldI .u32 (a7_.1, a7_.2 + 5) fun t38_35 => ldI .u32 (a7_.1, a7_.2 + 6) fun t43_37 => ldI .u32 p29 fun t49_39 => ldI .u32 p32 fun t53_41 => callK 394 [.int .u32 t22_23, .int .i64 6] fun v_ M => ∃ (r43 : Int), v_ = .int .u32 r43 ∧ ( callK 394 [.int .u32 t22_23, .int .i64 11] fun v_ M => ∃ (r44 : Int), v_ = .int .u32 r44 ∧ ( callK 394 [.int .u32 t22_23, .int .i64 25] fun v_ M => ∃ (r45 : Int), v_ = .int .u32 r45 ∧ ( ldI .u32 (a7_.1, a7_.2 + 1) fun t65_46 => ldI .u32 (a7_.1, a7_.2 + 2) fun t69_48 => ldI .u32 (a7_.1, a7_.2 + 1) fun t73_50 => ldI .u32 (a7_.1, a7_.2 + 2) fun t75_52 => callK 394 [.int .u32 t24_25, .int .i64 2] fun v_ M => ∃ (r54 : Int), v_ = .int .u32 r54 ∧ ( callK 394 [.int .u32 t24_25, .int .i64 13] fun v_ M => ∃ (r55 : Int), v_ = .int .u32 r55 ∧ ( callK 394 [.int .u32 t24_25, .int .i64 22] fun v_ M => ∃ (r56 : Int), v_ = .int .u32 r56 ∧ ( ldI .u32 (a7_.1, a7_.2 + 1) fun t84_57 => ldI .u32 (a7_.1, a7_.2 + 2) fun t86_59 => ldI .u32 (a7_.1, a7_.2 + 3) fun t88_61 => ldI .u32 (a7_.1, a7_.2 + 5) fun t93_63 => ldI .u32 (a7_.1, a7_.2 + 6) fun t95_65 => sts a7_ [.int .u32 (IntKind.wrap .u32 ((IntKind.wrap .u32 ((IntKind.wrap .u32 ((IntKind.wrap .u32 ((IntKind.wrap .u32 (t26_33 + (ixor .u32 (ixor .u32 r43 r44) r45))) + (ixor .u32 (iand .u32 t22_23 t38_35) (iand .u32 (inot .u32 t22_23) t43_37)))) + t49_39)) + t53_41)) + (IntKind.wrap .u32 ((ixor .u32 (ixor .u32 r54 r55) r56) + (ixor .u32 (ixor .u32 (iand .u32 t24_25 t65_46) (iand .u32 t24_25 t69_48)) (iand .u32 t73_50 t75_52)))))), .int .u32 t24_25, .int .u32 t84_57, .int .u32 t86_59, .int .u32 (IntKind.wrap .u32 (t88_61 + (IntKind.wrap .u32 ((IntKind.wrap .u32 ((IntKind.wrap .u32 ((IntKind.wrap .u32 (t26_33 + (ixor .u32 (ixor .u32 r43 r44) r45))) + (ixor .u32 (iand .u32 t22_23 t38_35) (iand .u32 (inot .u32 t22_23) t43_37)))) + t49_39)) + t53_41)))), .int .u32 t22_23, .int .u32 t93_63, .int .u32 t95_65] <| next2 (IntKind.wrap .i64 (t18_ + 1))) M) M) M) M) M) M) (S385_1 a2_ a7_ b4_c0 b4_c1 b4_c2 b4_c3 b4_c4 b4_c5 b4_c6 b4_c7 K X)
def S385_2 (a2_ : PA) (a5_ : PA) (a6_ : PA) (a7_ : PA) (t18_ : Int) (b4_c0 : Int) (b4_c1 : Int) (b4_c2 : Int) (b4_c3 : Int) (b4_c4 : Int) (b4_c5 : Int) (b4_c6 : Int) (b4_c7 : Int) (K : Int → Int → Int → Int → Int → Int → Int → Int → Mem → Prop) (X : List PanicEntry → Mem → Prop) : Mem → Prop :=
 Lp (fun (s_ : Int) next2 => S385_2b a2_ a5_ a6_ a7_ b4_c0 b4_c1 b4_c2 b4_c3 b4_c4 b4_c5 b4_c6 b4_c7 K X s_ next2) t18_
def S385 (t0_0 : Int) (t0_1 : Int) (t0_2 : Int) (t0_3 : Int) (t0_4 : Int) (t0_5 : Int) (t0_6 : Int) (t0_7 : Int) (t1 : Sl) (K : Int → Int → Int → Int → Int → Int → Int → Int → Mem → Prop) (X : List PanicEntry → Mem → Prop) : Mem → Prop :=
 new (.cells #[.int .u32 t0_0, .int .u32 t0_1, .int .u32 t0_2, .int .u32 t0_3, .int .u32 t0_4, .int .u32 t0_5, .int .u32 t0_6, .int .u32 t0_7] 431 (0, 0)) fun b1 => call 392 [Sl.v t1] X fun v_ M => ∃ (r3 : List Value), v_ = .agg r3.toArray ∧ ( call 393 [] X fun v_ M => ∃ (r4 : List Value), v_ = .agg r4.toArray ∧ ( new (.cells (List.replicate 64 (.int .u32 0)).toArray 450 (0, 0)) fun b5 => new (.cells (List.replicate 64 (.int .u32 0)).toArray 450 (0, 0)) fun b6 => stA 64 (b5, 0) r3 <| stA 64 (b6, 0) r4 <| ldI .u32 (b1, 0) fun t17_0 => ldI .u32 (b1, 1) fun t17_1 => ldI .u32 (b1, 2) fun t17_2 => ldI .u32 (b1, 3) fun t17_3 => ldI .u32 (b1, 4) fun t17_4 => ldI .u32 (b1, 5) fun t17_5 => ldI .u32 (b1, 6) fun t17_6 => ldI .u32 (b1, 7) fun t17_7 => new (.cells #[.int .u32 0, .int .u32 0, .int .u32 0, .int .u32 0, .int .u32 0, .int .u32 0, .int .u32 0, .int .u32 0] 431 (0, 0)) fun b21 => sts (b21, 0) [.int .u32 t17_0, .int .u32 t17_1, .int .u32 t17_2, .int .u32 t17_3, .int .u32 t17_4, .int .u32 t17_5, .int .u32 t17_6, .int .u32 t17_7] <| S385_2 (b1, 0) (b5, 0) (b6, 0) (b21, 0) 0 0 0 0 0 0 0 0 0 K X) M) M
abbrev F385_2 (K : Int → Int → Int → Int → Int → Int → Int → Int → Mem → Prop) (X : List PanicEntry → Mem → Prop) (e : Env) (Mp : Mem) : Prop := ∃ (a2_ : PA) (b4_ : Nat) (a5_ : PA) (a6_ : PA) (a7_ : PA) (t18_ : Int) (b4_c0 : Int) (b4_c1 : Int) (b4_c2 : Int) (b4_c3 : Int) (b4_c4 : Int) (b4_c5 : Int) (b4_c6 : Int) (b4_c7 : Int) (M : Mem), e.D = [] ∧ e.v 2 = ptr (some a2_) ∧ e.v 4 = ptr (some (b4_, 0)) ∧ e.v 5 = ptr (some a5_) ∧ e.v 6 = ptr (some a6_) ∧ e.v 7 = ptr (some a7_) ∧ e.v 18 = .int .i64 t18_ ∧ Pv M [(b4_, .cells #[.int .u32 b4_c0, .int .u32 b4_c1, .int .u32 b4_c2, .int .u32 b4_c3, .int .u32 b4_c4, .int .u32 b4_c5, .int .u32 b4_c6, .int .u32 b4_c7] 431 (0, 0))] Mp ∧ S385_2 a2_ a5_ a6_ a7_ t18_ b4_c0 b4_c1 b4_c2 b4_c3 b4_c4 b4_c5 b4_c6 b4_c7 K X M
abbrev F385_4 (K : Int → Int → Int → Int → Int → Int → Int → Int → Mem → Prop) (X : List PanicEntry → Mem → Prop) (e : Env) (Mp : Mem) : Prop := ∃ (a2_ : PA) (b4_ : Nat) (a7_ : PA) (t98_ : Int) (b4_c0 : Int) (b4_c1 : Int) (b4_c2 : Int) (b4_c3 : Int) (b4_c4 : Int) (b4_c5 : Int) (b4_c6 : Int) (b4_c7 : Int) (M : Mem), e.D = [] ∧ e.v 2 = ptr (some a2_) ∧ e.v 4 = ptr (some (b4_, 0)) ∧ e.v 7 = ptr (some a7_) ∧ e.v 98 = .int .i64 t98_ ∧ Pv M [(b4_, .cells #[.int .u32 b4_c0, .int .u32 b4_c1, .int .u32 b4_c2, .int .u32 b4_c3, .int .u32 b4_c4, .int .u32 b4_c5, .int .u32 b4_c6, .int .u32 b4_c7] 431 (0, 0))] Mp ∧ S385_4 a2_ a7_ t98_ b4_c0 b4_c1 b4_c2 b4_c3 b4_c4 b4_c5 b4_c6 b4_c7 K X M
abbrev F385_3 (K : Int → Int → Int → Int → Int → Int → Int → Int → Mem → Prop) (X : List PanicEntry → Mem → Prop) (e : Env) (Mp : Mem) : Prop := ∃ (b4_ : Nat) (a7_ : PA) (b4_c0 : Int) (b4_c1 : Int) (b4_c2 : Int) (b4_c3 : Int) (b4_c4 : Int) (b4_c5 : Int) (b4_c6 : Int) (b4_c7 : Int) (M : Mem), e.D = [] ∧ e.v 4 = ptr (some (b4_, 0)) ∧ e.v 7 = ptr (some a7_) ∧ Pv M [(b4_, .cells #[.int .u32 b4_c0, .int .u32 b4_c1, .int .u32 b4_c2, .int .u32 b4_c3, .int .u32 b4_c4, .int .u32 b4_c5, .int .u32 b4_c6, .int .u32 b4_c7] 431 (0, 0))] Mp ∧ S385_3 a7_ b4_c0 b4_c1 b4_c2 b4_c3 b4_c4 b4_c5 b4_c6 b4_c7 K X M
abbrev F385_1 (K : Int → Int → Int → Int → Int → Int → Int → Int → Mem → Prop) (X : List PanicEntry → Mem → Prop) (e : Env) (Mp : Mem) : Prop := ∃ (a2_ : PA) (b4_ : Nat) (a7_ : PA) (b4_c0 : Int) (b4_c1 : Int) (b4_c2 : Int) (b4_c3 : Int) (b4_c4 : Int) (b4_c5 : Int) (b4_c6 : Int) (b4_c7 : Int) (M : Mem), e.D = [] ∧ e.v 2 = ptr (some a2_) ∧ e.v 4 = ptr (some (b4_, 0)) ∧ e.v 7 = ptr (some a7_) ∧ Pv M [(b4_, .cells #[.int .u32 b4_c0, .int .u32 b4_c1, .int .u32 b4_c2, .int .u32 b4_c3, .int .u32 b4_c4, .int .u32 b4_c5, .int .u32 b4_c6, .int .u32 b4_c7] 431 (0, 0))] Mp ∧ S385_1 a2_ a7_ b4_c0 b4_c1 b4_c2 b4_c3 b4_c4 b4_c5 b4_c6 b4_c7 K X M
theorem br385 {t0_0 : Int} {t0_1 : Int} {t0_2 : Int} {t0_3 : Int} {t0_4 : Int} {t0_5 : Int} {t0_6 : Int} {t0_7 : Int} {t1 : Sl} {K : Int → Int → Int → Int → Int → Int → Int → Int → Mem → Prop} {X : List PanicEntry → Mem → Prop} {M : Mem} (H : S385 t0_0 t0_1 t0_2 t0_3 t0_4 t0_5 t0_6 t0_7 t1 K X M) :
  Spec Tryz.prog 385 #[.agg #[.int .u32 t0_0, .int .u32 t0_1, .int .u32 t0_2, .int .u32 t0_3, .int .u32 t0_4, .int .u32 t0_5, .int .u32 t0_6, .int .u32 t0_7], Sl.v t1] M (fun v_ M => ∃ (r0_0 : Int) (r0_1 : Int) (r0_2 : Int) (r0_3 : Int) (r0_4 : Int) (r0_5 : Int) (r0_6 : Int) (r0_7 : Int), v_ = .agg #[.int .u32 r0_0, .int .u32 r0_1, .int .u32 r0_2, .int .u32 r0_3, .int .u32 r0_4, .int .u32 r0_5, .int .u32 r0_6, .int .u32 r0_7] ∧ K r0_0 r0_1 r0_2 r0_3 r0_4 r0_5 r0_6 r0_7 M) X := by
 refine spec_of_J (args := [.agg #[.int .u32 t0_0, .int .u32 t0_1, .int .u32 t0_2, .int .u32 t0_3, .int .u32 t0_4, .int .u32 t0_5, .int .u32 t0_6, .int .u32 t0_7], Sl.v t1]) Tryz.func385 rfl Tryz.ntmps385 (Nat.le_of_ble_eq_true rfl) ?_
 have hD : (⟨fun i => ([.agg #[.int .u32 t0_0, .int .u32 t0_1, .int .u32 t0_2, .int .u32 t0_3, .int .u32 t0_4, .int .u32 t0_5, .int .u32 t0_6, .int .u32 t0_7], Sl.v t1] : List Value).getD i undef, []⟩ : Env).D = [] := rfl
 have hP := Pv.nil M
 have hX := @kx_of Tryz.prog Tryz.f385 (fun v_ M => ∃ (r0_0 : Int) (r0_1 : Int) (r0_2 : Int) (r0_3 : Int) (r0_4 : Int) (r0_5 : Int) (r0_6 : Int) (r0_7 : Int), v_ = .agg #[.int .u32 r0_0, .int .u32 r0_1, .int .u32 r0_2, .int .u32 r0_3, .int .u32 r0_4, .int .u32 r0_5, .int .u32 r0_6, .int .u32 r0_7] ∧ K r0_0 r0_1 r0_2 r0_3 r0_4 r0_5 r0_6 r0_7 M) X
 unfold S385 at H
 refine J_seq ?_
 refine J_region (by decide) ?_
 refine JO_box (v := .agg #[.int .u32 t0_0, .int .u32 t0_1, .int .u32 t0_2, .int .u32 t0_3, .int .u32 t0_4, .int .u32 t0_5, .int .u32 t0_6, .int .u32 t0_7]) rfl ?_
 intro b1 hb
 replace H := H b1 (hP.out hb).1
 replace hP := hP.new hb (.cells #[.int .u32 t0_0, .int .u32 t0_1, .int .u32 t0_2, .int .u32 t0_3, .int .u32 t0_4, .int .u32 t0_5, .int .u32 t0_6, .int .u32 t0_7] 431 (0, 0))
 refine JO_alloc (cs := [.int .u32 0, .int .u32 0, .int .u32 0, .int .u32 0, .int .u32 0, .int .u32 0, .int .u32 0, .int .u32 0]) zc_431 ?_
 intro b2 hb
 replace hP : Pv _ [(b2, .cells #[.int .u32 0, .int .u32 0, .int .u32 0, .int .u32 0, .int .u32 0, .int .u32 0, .int .u32 0, .int .u32 0] 431 (0, 0))] _ := hP.box hb _
 refine JO_nil ?_
 refine J_seq ?_
 refine J_region (by decide) ?_
 refine JO_move (v := Sl.v t1) rfl ?_
 refine JO_call Tryz.call392 (vs := [Sl.v t1]) (mc rfl mn) ((hP.spec H).mono ?_ (fun ch Mp h => hX hD h))
 rintro v Mp ⟨M, hP, r3, rfl, H⟩
 refine JO_call Tryz.call393 (vs := []) mn ((hP.spec H).mono ?_ (fun ch Mp h => hX hD h))
 rintro v Mp ⟨M, hP, r4, rfl, H⟩
 refine JO_alloc (cs := List.replicate 64 (.int .u32 0)) zc_450 ?_
 intro b5 hb
 replace H := H b5 (hP.out hb).1
 replace hP := hP.new hb (.cells (List.replicate 64 (.int .u32 0)).toArray 450 (0, 0))
 refine JO_alloc (cs := List.replicate 64 (.int .u32 0)) zc_450 ?_
 intro b6 hb
 replace H := H b6 (hP.out hb).1
 replace hP := hP.new hb (.cells (List.replicate 64 (.int .u32 0)).toArray 450 (0, 0))
 obtain ⟨g8, g9, g7, H⟩ := H
 refine JO_storeAgg (p := (b5, 0)) (cs := r3) (by rw [g8]; exact sz_450) rfl rfl g9 (hP.wrs g7) ?_
 replace hP := hP.stos r3 g7
 obtain ⟨g11, g12, g10, H⟩ := H
 refine JO_storeAgg (p := (b6, 0)) (cs := r4) (by rw [g11]; exact sz_450) rfl rfl g12 (hP.wrs g10) ?_
 replace hP := hP.stos r4 g10
 refine JO_nil ?_
 refine J_seq ?_
 refine J_region (by decide) ?_
 obtain ⟨t17_0, g13, H⟩ := H
 obtain ⟨t17_1, g14, H⟩ := H
 obtain ⟨t17_2, g15, H⟩ := H
 obtain ⟨t17_3, g16, H⟩ := H
 obtain ⟨t17_4, g17, H⟩ := H
 obtain ⟨t17_5, g18, H⟩ := H
 obtain ⟨t17_6, g19, H⟩ := H
 obtain ⟨t17_7, g20, H⟩ := H
 refine JO_loadAgg (p := (b1, 0)) (cs := [.int .u32 t17_0, .int .u32 t17_1, .int .u32 t17_2, .int .u32 t17_3, .int .u32 t17_4, .int .u32 t17_5, .int .u32 t17_6, .int .u32 t17_7]) ag_431 (Nat.succ_pos _) rfl (cels_of (b := b1) (o := 0) ⟨hP.cel g13, hP.cel g14, hP.cel g15, hP.cel g16, hP.cel g17, hP.cel g18, hP.cel g19, hP.cel g20, trivial⟩) ?_
 refine JO_alloc (cs := [.int .u32 0, .int .u32 0, .int .u32 0, .int .u32 0, .int .u32 0, .int .u32 0, .int .u32 0, .int .u32 0]) zc_431 ?_
 intro b21 hb
 replace H := H b21 (hP.out hb).1
 replace hP := hP.new hb (.cells #[.int .u32 0, .int .u32 0, .int .u32 0, .int .u32 0, .int .u32 0, .int .u32 0, .int .u32 0, .int .u32 0] 431 (0, 0))
 obtain ⟨g22, H⟩ := H
 refine JO_storeAgg (p := (b21, 0)) (cs := [.int .u32 t17_0, .int .u32 t17_1, .int .u32 t17_2, .int .u32 t17_3, .int .u32 t17_4, .int .u32 t17_5, .int .u32 t17_6, .int .u32 t17_7]) sz_431 rfl rfl (all_cons rfl (all_cons rfl (all_cons rfl (all_cons rfl (all_cons rfl (all_cons rfl (all_cons rfl (all_cons rfl all_nil)))))))) (hP.wrs g22) ?_
 replace hP := hP.stos [.int .u32 t17_0, .int .u32 t17_1, .int .u32 t17_2, .int .u32 t17_3, .int .u32 t17_4, .int .u32 t17_5, .int .u32 t17_6, .int .u32 t17_7] g22
 refine JO_nil ?_
 refine J_seq ?_
 refine J_seq ?_
 refine J_region (by decide) ?_
 refine JO_move (v := .int .i64 0) rfl ?_
 refine JO_nil ?_
 refine J_blockF (F385_1 K X) ?_ ?_
 ·
  refine J_of (F385_2 K X) (show F385_2 K X _ _ from ⟨(b1, 0), b2, (b5, 0), (b6, 0), (b21, 0), 0, 0, 0, 0, 0, 0, 0, 0, 0, _, hD, rfl, rfl, rfl, rfl, rfl, rfl, hP, H⟩) ?_
  rintro e Mp ⟨a2_, b4_, a5_, a6_, a7_, t18_, b4_c0, b4_c1, b4_c2, b4_c3, b4_c4, b4_c5, b4_c6, b4_c7, M, hD, h2, h4, h5, h6, h7, h18, hP, H⟩
  unfold S385_2 at H
  refine J_loopP (σ := Int) (body := fun (s_ : Int) next2 => S385_2b a2_ a5_ a6_ a7_ b4_c0 b4_c1 b4_c2 b4_c3 b4_c4 b4_c5 b4_c6 b4_c7 K X s_ next2) (s := t18_) (M := M) (fun (s_ : Int) (e : Env) (M Mp : Mem) => e.D = [] ∧ e.v 2 = ptr (some a2_) ∧ e.v 4 = ptr (some (b4_, 0)) ∧ e.v 5 = ptr (some a5_) ∧ e.v 6 = ptr (some a6_) ∧ e.v 7 = ptr (some a7_) ∧ e.v 18 = .int .i64 s_ ∧ Pv M [(b4_, .cells #[.int .u32 b4_c0, .int .u32 b4_c1, .int .u32 b4_c2, .int .u32 b4_c3, .int .u32 b4_c4, .int .u32 b4_c5, .int .u32 b4_c6, .int .u32 b4_c7] 431 (0, 0))] Mp) ?_ ⟨hD, h2, h4, h5, h6, h7, h18, hP⟩ H
  rintro next2 t18_ e M Mp ⟨hD, h2, h4, h5, h6, h7, h18, hP⟩ H
  replace H : S385_2b a2_ a5_ a6_ a7_ b4_c0 b4_c1 b4_c2 b4_c3 b4_c4 b4_c5 b4_c6 b4_c7 K X t18_ next2 M := H
  unfold S385_2b at H
  refine J_seq ?_
  refine J_region (by decide) ?_
  refine JO_iop (op := .lss) (k := .i64) (a := t18_) (b := 64) h18 rfl trivial ?_
  refine JO_nil ?_
  refine J_seq ?_
  refine J_cond (t := decide (t18_ < 64)) rfl (fun hc_ => ?_) (fun hc_ => ?_)
  ·
   replace H := H.1 hc_
   clear hc_
   refine J_skip ?_
   refine J_seq ?_
   refine J_block ?_
   refine J_seq ?_
   refine J_region (by decide) ?_
   refine JO_move (v := .int .i64 t18_) h18 ?_
   refine JO_assign (v := .int .i64 t18_) rfl ?_
   refine JO_nil ?_
   refine J_seq ?_
   refine J_draw [0, 1, 0, 1, 0, 0] (.cho 0 (.cho 2 (.cho 1 (.cho 4 (.cho 3 (.cho 5 .done .none) .none) .none) .none) .none) .none) rfl (by kernel_rfl) ?_
   refine JE_one ?_
   refine ST0 (fun _ h => by cases h) (fun w => OV_indexAddrA (p := a7_) (i := 4) ea_431 (by exact h7) rfl (by decide) (by decide) w) ?_
   refine JE_one ?_
   refine ST0 (fun _ h => by cases h) (fun w => OV_indexAddrA (p := a7_) (i := 0) ea_431 (by exact h7) rfl (by decide) (by decide) w) ?_
   refine JE_one ?_
   obtain ⟨t22_23, g24, H⟩ := H
   refine ST1 (fun _ h => by cases h) (fun w hs => OV_load (p := (a7_.1, a7_.2 + 4)) (v := .int .u32 t22_23) na_301 rfl (hP.cel g24) w hs) ?_
   refine JE_one ?_
   refine ST0 (fun _ h => by cases h) (fun w => OV_assign (v := .int .u32 t22_23) rfl w) ?_
   refine JE_one ?_
   obtain ⟨t24_25, g26, H⟩ := H
   refine ST1 (fun _ h => by cases h) (fun w hs => OV_load (p := a7_) (v := .int .u32 t24_25) na_301 rfl (hP.cel g26) w hs) ?_
   refine JE_one ?_
   refine ST0 (fun _ h => by cases h) (fun w => OV_assign (v := .int .u32 t24_25) rfl w) ?_
   refine JE_done ?_
   refine J_seq ?_
   refine J_draw [0, 1, 0, 4, 0, 4, 0, 0, 4, 0, 0, 0, 0, 1, 0, 0, 0, 0, 1, 0, 0, 0, 0, 0, 1, 0, 0, 0, 1, 0, 0] (.cho 0 (.cho 2 (.cho 4 (.cho 7 (.cho 11 (.cho 12 (.cho 15 (.cho 16 (.cho 17 (.cho 22 (.cho 23 (.cho 26 (.cho 27 (.cho 1 (.cho 13 (.cho 14 (.cho 18 (.cho 19 (.cho 20 (.cho 24 (.cho 28 (.cho 3 (.cho 5 (.cho 6 (.cho 8 (.cho 9 (.cho 10 (.cho 21 (.cho 25 (.cho 29 (.cho 30 .done .none) .none) .none) .none) .none) .none) .none) .none) .none) .none) .none) .none) .none) .none) .none) .none) .none) .none) .none) .none) .none) .none) .none) .none) .none) .none) .none) .none) .none) .none) .none) rfl (by kernel_rfl) ?_
   refine JE_one ?_
   refine ST0 (fun _ h => by cases h) (fun w => OV_indexAddrA (p := a7_) (i := 7) ea_431 (by exact h7) rfl (by decide) (by decide) w) ?_
   refine JE_one ?_
   refine ST0 (fun _ h => by cases h) (fun w => OV_move (v := .int .u32 t22_23) rfl w) ?_
   refine JE_one ?_
   refine ST0 (fun _ h => by cases h) (fun w => OV_move (v := .int .u32 t22_23) rfl w) ?_
   refine JE_one ?_
   refine ST0 (fun _ h => by cases h) (fun w => OV_move (v := .int .u32 t22_23) rfl w) ?_
   refine JE_one ?_
   refine ST0 (fun _ h => by cases h) (fun w => OV_move (v := .int .u32 t22_23) rfl w) ?_
   refine JE_one ?_
   refine ST0 (fun _ h => by cases h) (fun w => OV_indexAddrA (p := a7_) (i := 5) ea_431 (by exact h7) rfl (by decide) (by decide) w) ?_
   refine JE_one ?_
   refine ST0 (fun _ h => by cases h) (fun w => OV_move (v := .int .u32 t22_23) rfl w) ?_
   refine JE_one ?_
   refine ST0 (fun _ h => by cases h) (fun w => OV_xor1 (k := .u32) (a := t22_23) rfl w) ?_
   refine JE_one ?_
   refine ST0 (fun _ h => by cases h) (fun w => OV_indexAddrA (p := a7_) (i := 6) ea_431 (by exact h7) rfl (by decide) (by decide) w) ?_
   refine JE_one ?_
   refine ST0 (fun _ h => by cases h) (fun w => OV_move (v := .int .i64 t18_) rfl w) ?_
   refine JE_one ?_
   obtain ⟨g27, g28, H⟩ := H
   refine ST0 (fun _ h => by cases h) (fun w => OV_indexAddrA (p := a6_) (i := t18_) ea_450 (by exact h6) rfl g27 g28 w) ?_
   obtain ⟨p29, hq_⟩ : ∃ q : PA, q = (a6_.1, a6_.2 + (t18_ : Int).toNat * 1) := ⟨_, rfl⟩; rw [← hq_] at H ⊢; clear hq_
   refine JE_one ?_
   refine ST0 (fun _ h => by cases h) (fun w => OV_move (v := .int .i64 t18_) rfl w) ?_
   refine JE_one ?_
   obtain ⟨g30, g31, H⟩ := H
   refine ST0 (fun _ h => by cases h) (fun w => OV_indexAddrA (p := a5_) (i := t18_) ea_450 (by exact h5) rfl g30 g31 w) ?_
   obtain ⟨p32, hq_⟩ : ∃ q : PA, q = (a5_.1, a5_.2 + (t18_ : Int).toNat * 1) := ⟨_, rfl⟩; rw [← hq_] at H ⊢; clear hq_
   refine JE_one ?_
   obtain ⟨t26_33, g34, H⟩ := H
   refine ST1 (fun _ h => by cases h) (fun w hs => OV_load (p := (a7_.1, a7_.2 + 7)) (v := .int .u32 t26_33) na_301 rfl (hP.cel g34) w hs) ?_
   refine JE_one ?_
   obtain ⟨t38_35, g36, H⟩ := H
   refine ST1 (fun _ h => by cases h) (fun w hs => OV_load (p := (a7_.1, a7_.2 + 5)) (v := .int .u32 t38_35) na_301 rfl (hP.cel g36) w hs) ?_
   refine JE_one ?_
   refine ST0 (fun _ h => by cases h) (fun w => OV_iop (op := .and) (k := .u32) (a := t22_23) (b := t38_35) rfl rfl trivial w) ?_
   refine JE_one ?_
   obtain ⟨t43_37, g38, H⟩ := H
   refine ST1 (fun _ h => by cases h) (fun w hs => OV_load (p := (a7_.1, a7_.2 + 6)) (v := .int .u32 t43_37) na_301 rfl (hP.cel g38) w hs) ?_
   refine JE_one ?_
   refine ST0 (fun _ h => by cases h) (fun w => OV_iop (op := .and) (k := .u32) (a := inot .u32 t22_23) (b := t43_37) rfl rfl trivial w) ?_
   refine JE_one ?_
   refine ST0 (fun _ h => by cases h) (fun w => OV_iop (op := .xor) (k := .u32) (a := iand .u32 t22_23 t38_35) (b := iand .u32 (inot .u32 t22_23) t43_37) rfl rfl trivial w) ?_
   refine JE_one ?_
   obtain ⟨t49_39, g40, H⟩ := H
   refine ST1 (fun _ h => by cases h) (fun w hs => OV_load (p := p29) (v := .int .u32 t49_39) na_301 rfl (hP.cel g40) w hs) ?_
   refine JE_one ?_
   obtain ⟨t53_41, g42, H⟩ := H
   refine ST1 (fun _ h => by cases h) (fun w hs => OV_load (p := p32) (v := .int .u32 t53_41) na_301 rfl (hP.cel g42) w hs) ?_
   refine JE_one ?_
   refine ST4 ?_
   refine JO_call Tryz.call394 (vs := [.int .u32 t22_23, .int .i64 6]) (mc rfl (mc rfl mn)) ((hP.specK H).mono ?_ (fun _ _ ⟨_, _, f⟩ => f.elim))
   rintro rv_ Mp ⟨M, hP', hk_, r43, rfl, H⟩
   refine Kd_nil ?_
   refine And.intro hk_ ?_
   replace hP := hP'
   refine JE_one ?_
   refine ST4 ?_
   refine JO_call Tryz.call394 (vs := [.int .u32 t22_23, .int .i64 11]) (mc rfl (mc rfl mn)) ((hP.specK H).mono ?_ (fun _ _ ⟨_, _, f⟩ => f.elim))
   rintro rv_ Mp ⟨M, hP', hk_, r44, rfl, H⟩
   refine Kd_nil ?_
   refine And.intro hk_ ?_
   replace hP := hP'
   refine JE_one ?_
   refine ST0 (fun _ h => by cases h) (fun w => OV_iop (op := .xor) (k := .u32) (a := r43) (b := r44) rfl rfl trivial w) ?_
   refine JE_one ?_
   refine ST4 ?_
   refine JO_call Tryz.call394 (vs := [.int .u32 t22_23, .int .i64 25]) (mc rfl (mc rfl mn)) ((hP.specK H).mono ?_ (fun _ _ ⟨_, _, f⟩ => f.elim))
   rintro rv_ Mp ⟨M, hP', hk_, r45, rfl, H⟩
   refine Kd_nil ?_
   refine And.intro hk_ ?_
   replace hP := hP'
   refine JE_one ?_
   refine ST0 (fun _ h => by cases h) (fun w => OV_iop (op := .xor) (k := .u32) (a := ixor .u32 r43 r44) (b := r45) rfl rfl trivial w) ?_
   refine JE_one ?_
   refine ST0 (fun _ h => by cases h) (fun w => OV_iop (op := .add) (k := .u32) (a := t26_33) (b := ixor .u32 (ixor .u32 r43 r44) r45) rfl rfl trivial w) ?_
   refine JE_one ?_
   refine ST0 (fun _ h => by cases h) (fun w => OV_iop (op := .add) (k := .u32) (a := IntKind.wrap .u32 (t26_33 + (ixor .u32 (ixor .u32 r43 r44) r45))) (b := ixor .u32 (iand .u32 t22_23 t38_35) (iand .u32 (inot .u32 t22_23) t43_37)) rfl rfl trivial w) ?_
   refine JE_one ?_
   refine ST0 (fun _ h => by cases h) (fun w => OV_iop (op := .add) (k := .u32) (a := IntKind.wrap .u32 ((IntKind.wrap .u32 (t26_33 + (ixor .u32 (ixor .u32 r43 r44) r45))) + (ixor .u32 (iand .u32 t22_23 t38_35) (iand .u32 (inot .u32 t22_23) t43_37)))) (b := t49_39) rfl rfl trivial w) ?_
   refine JE_one ?_
   refine ST0 (fun _ h => by cases h) (fun w => OV_iop (op := .add) (k := .u32) (a := IntKind.wrap .u32 ((IntKind.wrap .u32 ((IntKind.wrap .u32 (t26_33 + (ixor .u32 (ixor .u32 r43 r44) r45))) + (ixor .u32 (iand .u32 t22_23 t38_35) (iand .u32 (inot .u32 t22_23) t43_37)))) + t49_39)) (b := t53_41) rfl rfl trivial w) ?_
   refine JE_one ?_
   refine ST0 (fun _ h => by cases h) (fun w => OV_assign (v := .int .u32 (IntKind.wrap .u32 ((IntKind.wrap .u32 ((IntKind.wrap .u32 ((IntKind.wrap .u32 (t26_33 + (ixor .u32 (ixor .u32 r43 r44) r45))) + (ixor .u32 (iand .u32 t22_23 t38_35) (iand .u32 (inot .u32 t22_23) t43_37)))) + t49_39)) + t53_41))) rfl w) ?_
   refine JE_done ?_
   refine J_seq ?_
   refine J_draw [0, 4, 0, 4, 0, 0, 4, 0, 0, 0, 1, 0, 0, 0, 1, 0, 0, 0, 1, 0, 1, 0, 0, 0, 0] (.cho 0 (.cho 2 (.cho 5 (.cho 8 (.cho 9 (.cho 12 (.cho 13 (.cho 17 (.cho 19 (.cho 10 (.cho 11 (.cho 14 (.cho 15 (.cho 16 (.cho 18 (.cho 20 (.cho 21 (.cho 22 (.cho 1 (.cho 3 (.cho 4 (.cho 6 (.cho 7 (.cho 23 (.cho 24 .done .none) .none) .none) .none) .none) .none) .none) .none) .none) .none) .none) .none) .none) .none) .none) .none) .none) .none) .none) .none) .none) .none) .none) .none) .none) rfl (by kernel_rfl) ?_
   refine JE_one ?_
   refine ST0 (fun _ h => by cases h) (fun w => OV_move (v := .int .u32 t24_25) rfl w) ?_
   refine JE_one ?_
   refine ST0 (fun _ h => by cases h) (fun w => OV_move (v := .int .u32 t24_25) rfl w) ?_
   refine JE_one ?_
   refine ST0 (fun _ h => by cases h) (fun w => OV_move (v := .int .u32 t24_25) rfl w) ?_
   refine JE_one ?_
   refine ST0 (fun _ h => by cases h) (fun w => OV_move (v := .int .u32 t24_25) rfl w) ?_
   refine JE_one ?_
   refine ST0 (fun _ h => by cases h) (fun w => OV_indexAddrA (p := a7_) (i := 1) ea_431 (by exact h7) rfl (by decide) (by decide) w) ?_
   refine JE_one ?_
   refine ST0 (fun _ h => by cases h) (fun w => OV_move (v := .int .u32 t24_25) rfl w) ?_
   refine JE_one ?_
   refine ST0 (fun _ h => by cases h) (fun w => OV_indexAddrA (p := a7_) (i := 2) ea_431 (by exact h7) rfl (by decide) (by decide) w) ?_
   refine JE_one ?_
   refine ST0 (fun _ h => by cases h) (fun w => OV_indexAddrA (p := a7_) (i := 1) ea_431 (by exact h7) rfl (by decide) (by decide) w) ?_
   refine JE_one ?_
   refine ST0 (fun _ h => by cases h) (fun w => OV_indexAddrA (p := a7_) (i := 2) ea_431 (by exact h7) rfl (by decide) (by decide) w) ?_
   refine JE_one ?_
   obtain ⟨t65_46, g47, H⟩ := H
   refine ST1 (fun _ h => by cases h) (fun w hs => OV_load (p := (a7_.1, a7_.2 + 1)) (v := .int .u32 t65_46) na_301 rfl (hP.cel g47) w hs) ?_
   refine JE_one ?_
   refine ST0 (fun _ h => by cases h) (fun w => OV_iop (op := .and) (k := .u32) (a := t24_25) (b := t65_46) rfl rfl trivial w) ?_
   refine JE_one ?_
   obtain ⟨t69_48, g49, H⟩ := H
   refine ST1 (fun _ h => by cases h) (fun w hs => OV_load (p := (a7_.1, a7_.2 + 2)) (v := .int .u32 t69_48) na_301 rfl (hP.cel g49) w hs) ?_
   refine JE_one ?_
   refine ST0 (fun _ h => by cases h) (fun w => OV_iop (op := .and) (k := .u32) (a := t24_25) (b := t69_48) rfl rfl trivial w) ?_
   refine JE_one ?_
   refine ST0 (fun _ h => by cases h) (fun w => OV_iop (op := .xor) (k := .u32) (a := iand .u32 t24_25 t65_46) (b := iand .u32 t24_25 t69_48) rfl rfl trivial w) ?_
   refine JE_one ?_
   obtain ⟨t73_50, g51, H⟩ := H
   refine ST1 (fun _ h => by cases h) (fun w hs => OV_load (p := (a7_.1, a7_.2 + 1)) (v := .int .u32 t73_50) na_301 rfl (hP.cel g51) w hs) ?_
   refine JE_one ?_
   obtain ⟨t75_52, g53, H⟩ := H
   refine ST1 (fun _ h => by cases h) (fun w hs => OV_load (p := (a7_.1, a7_.2 + 2)) (v := .int .u32 t75_52) na_301 rfl (hP.cel g53) w hs) ?_
   refine JE_one ?_
   refine ST0 (fun _ h => by cases h) (fun w => OV_iop (op := .and) (k := .u32) (a := t73_50) (b := t75_52) rfl rfl trivial w) ?_
   refine JE_one ?_
   refine ST0 (fun _ h => by cases h) (fun w => OV_iop (op := .xor) (k := .u32) (a := ixor .u32 (iand .u32 t24_25 t65_46) (iand .u32 t24_25 t69_48)) (b := iand .u32 t73_50 t75_52) rfl rfl trivial w) ?_
   refine JE_one ?_
   refine ST4 ?_
   refine JO_call Tryz.call394 (vs := [.int .u32 t24_25, .int .i64 2]) (mc rfl (mc rfl mn)) ((hP.specK H).mono ?_ (fun _ _ ⟨_, _, f⟩ => f.elim))
   rintro rv_ Mp ⟨M, hP', hk_, r54, rfl, H⟩
   refine Kd_nil ?_
   refine And.intro hk_ ?_
   replace hP := hP'
   refine JE_one ?_
   refine ST4 ?_
   refine JO_call Tryz.call394 (vs := [.int .u32 t24_25, .int .i64 13]) (mc rfl (mc rfl mn)) ((hP.specK H).mono ?_ (fun _ _ ⟨_, _, f⟩ => f.elim))
   rintro rv_ Mp ⟨M, hP', hk_, r55, rfl, H⟩
   refine Kd_nil ?_
   refine And.intro hk_ ?_
   replace hP := hP'
   refine JE_one ?_
   refine ST0 (fun _ h => by cases h) (fun w => OV_iop (op := .xor) (k := .u32) (a := r54) (b := r55) rfl rfl trivial w) ?_
   refine JE_one ?_
   refine ST4 ?_
   refine JO_call Tryz.call394 (vs := [.int .u32 t24_25, .int .i64 22]) (mc rfl (mc rfl mn)) ((hP.specK H).mono ?_ (fun _ _ ⟨_, _, f⟩ => f.elim))
   rintro rv_ Mp ⟨M, hP', hk_, r56, rfl, H⟩
   refine Kd_nil ?_
   refine And.intro hk_ ?_
   replace hP := hP'
   refine JE_one ?_
   refine ST0 (fun _ h => by cases h) (fun w => OV_iop (op := .xor) (k := .u32) (a := ixor .u32 r54 r55) (b := r56) rfl rfl trivial w) ?_
   refine JE_one ?_
   refine ST0 (fun _ h => by cases h) (fun w => OV_iop (op := .add) (k := .u32) (a := ixor .u32 (ixor .u32 r54 r55) r56) (b := ixor .u32 (ixor .u32 (iand .u32 t24_25 t65_46) (iand .u32 t24_25 t69_48)) (iand .u32 t73_50 t75_52)) rfl rfl trivial w) ?_
   refine JE_one ?_
   refine ST0 (fun _ h => by cases h) (fun w => OV_assign (v := .int .u32 (IntKind.wrap .u32 ((ixor .u32 (ixor .u32 r54 r55) r56) + (ixor .u32 (ixor .u32 (iand .u32 t24_25 t65_46) (iand .u32 t24_25 t69_48)) (iand .u32 t73_50 t75_52))))) rfl w) ?_
   refine JE_done ?_
   refine J_region (by decide) ?_
   refine JO_move (v := .int .u32 (IntKind.wrap .u32 ((IntKind.wrap .u32 ((IntKind.wrap .u32 ((IntKind.wrap .u32 (t26_33 + (ixor .u32 (ixor .u32 r43 r44) r45))) + (ixor .u32 (iand .u32 t22_23 t38_35) (iand .u32 (inot .u32 t22_23) t43_37)))) + t49_39)) + t53_41))) rfl ?_
   refine JO_move (v := .int .u32 (IntKind.wrap .u32 ((ixor .u32 (ixor .u32 r54 r55) r56) + (ixor .u32 (ixor .u32 (iand .u32 t24_25 t65_46) (iand .u32 t24_25 t69_48)) (iand .u32 t73_50 t75_52))))) rfl ?_
   refine JO_iop (op := .add) (k := .u32) (a := IntKind.wrap .u32 ((IntKind.wrap .u32 ((IntKind.wrap .u32 ((IntKind.wrap .u32 (t26_33 + (ixor .u32 (ixor .u32 r43 r44) r45))) + (ixor .u32 (iand .u32 t22_23 t38_35) (iand .u32 (inot .u32 t22_23) t43_37)))) + t49_39)) + t53_41)) (b := IntKind.wrap .u32 ((ixor .u32 (ixor .u32 r54 r55) r56) + (ixor .u32 (ixor .u32 (iand .u32 t24_25 t65_46) (iand .u32 t24_25 t69_48)) (iand .u32 t73_50 t75_52)))) rfl rfl trivial ?_
   refine JO_move (v := .int .u32 t24_25) rfl ?_
   refine JO_indexAddrA (p := a7_) (i := 1) ea_431 h7 rfl (by decide) (by decide) ?_
   obtain ⟨t84_57, g58, H⟩ := H
   refine JO_load (p := (a7_.1, a7_.2 + 1)) (v := .int .u32 t84_57) na_301 rfl (hP.cel g58) ?_
   refine JO_indexAddrA (p := a7_) (i := 2) ea_431 h7 rfl (by decide) (by decide) ?_
   obtain ⟨t86_59, g60, H⟩ := H
   refine JO_load (p := (a7_.1, a7_.2 + 2)) (v := .int .u32 t86_59) na_301 rfl (hP.cel g60) ?_
   refine JO_indexAddrA (p := a7_) (i := 3) ea_431 h7 rfl (by decide) (by decide) ?_
   obtain ⟨t88_61, g62, H⟩ := H
   refine JO_load (p := (a7_.1, a7_.2 + 3)) (v := .int .u32 t88_61) na_301 rfl (hP.cel g62) ?_
   refine JO_move (v := .int .u32 (IntKind.wrap .u32 ((IntKind.wrap .u32 ((IntKind.wrap .u32 ((IntKind.wrap .u32 (t26_33 + (ixor .u32 (ixor .u32 r43 r44) r45))) + (ixor .u32 (iand .u32 t22_23 t38_35) (iand .u32 (inot .u32 t22_23) t43_37)))) + t49_39)) + t53_41))) rfl ?_
   refine JO_iop (op := .add) (k := .u32) (a := t88_61) (b := IntKind.wrap .u32 ((IntKind.wrap .u32 ((IntKind.wrap .u32 ((IntKind.wrap .u32 (t26_33 + (ixor .u32 (ixor .u32 r43 r44) r45))) + (ixor .u32 (iand .u32 t22_23 t38_35) (iand .u32 (inot .u32 t22_23) t43_37)))) + t49_39)) + t53_41)) rfl rfl trivial ?_
   refine JO_move (v := .int .u32 t22_23) rfl ?_
   refine JO_indexAddrA (p := a7_) (i := 5) ea_431 h7 rfl (by decide) (by decide) ?_
   obtain ⟨t93_63, g64, H⟩ := H
   refine JO_load (p := (a7_.1, a7_.2 + 5)) (v := .int .u32 t93_63) na_301 rfl (hP.cel g64) ?_
   refine JO_indexAddrA (p := a7_) (i := 6) ea_431 h7 rfl (by decide) (by decide) ?_
   obtain ⟨t95_65, g66, H⟩ := H
   refine JO_load (p := (a7_.1, a7_.2 + 6)) (v := .int .u32 t95_65) na_301 rfl (hP.cel g66) ?_
   refine JO_bldA (vs := [(0, .int .u32 (IntKind.wrap .u32 ((IntKind.wrap .u32 ((IntKind.wrap .u32 ((IntKind.wrap .u32 ((IntKind.wrap .u32 (t26_33 + (ixor .u32 (ixor .u32 r43 r44) r45))) + (ixor .u32 (iand .u32 t22_23 t38_35) (iand .u32 (inot .u32 t22_23) t43_37)))) + t49_39)) + t53_41)) + (IntKind.wrap .u32 ((ixor .u32 (ixor .u32 r54 r55) r56) + (ixor .u32 (ixor .u32 (iand .u32 t24_25 t65_46) (iand .u32 t24_25 t69_48)) (iand .u32 t73_50 t75_52))))))), (1, .int .u32 t24_25), (2, .int .u32 t84_57), (3, .int .u32 t86_59), (4, .int .u32 (IntKind.wrap .u32 (t88_61 + (IntKind.wrap .u32 ((IntKind.wrap .u32 ((IntKind.wrap .u32 ((IntKind.wrap .u32 (t26_33 + (ixor .u32 (ixor .u32 r43 r44) r45))) + (ixor .u32 (iand .u32 t22_23 t38_35) (iand .u32 (inot .u32 t22_23) t43_37)))) + t49_39)) + t53_41))))), (5, .int .u32 t22_23), (6, .int .u32 t93_63), (7, .int .u32 t95_65)]) (cs := [.int .u32 (IntKind.wrap .u32 ((IntKind.wrap .u32 ((IntKind.wrap .u32 ((IntKind.wrap .u32 ((IntKind.wrap .u32 (t26_33 + (ixor .u32 (ixor .u32 r43 r44) r45))) + (ixor .u32 (iand .u32 t22_23 t38_35) (iand .u32 (inot .u32 t22_23) t43_37)))) + t49_39)) + t53_41)) + (IntKind.wrap .u32 ((ixor .u32 (ixor .u32 r54 r55) r56) + (ixor .u32 (ixor .u32 (iand .u32 t24_25 t65_46) (iand .u32 t24_25 t69_48)) (iand .u32 t73_50 t75_52)))))), .int .u32 t24_25, .int .u32 t84_57, .int .u32 t86_59, .int .u32 (IntKind.wrap .u32 (t88_61 + (IntKind.wrap .u32 ((IntKind.wrap .u32 ((IntKind.wrap .u32 ((IntKind.wrap .u32 (t26_33 + (ixor .u32 (ixor .u32 r43 r44) r45))) + (ixor .u32 (iand .u32 t22_23 t38_35) (iand .u32 (inot .u32 t22_23) t43_37)))) + t49_39)) + t53_41)))), .int .u32 t22_23, .int .u32 t93_63, .int .u32 t95_65]) ea_431 zc_431 (mpc rfl (mpc rfl (mpc rfl (mpc rfl (mpc rfl (mpc rfl (mpc rfl (mpc rfl mpn)))))))) rfl ?_
   obtain ⟨g67, H⟩ := H
   refine JO_storeAgg (p := a7_) (cs := [.int .u32 (IntKind.wrap .u32 ((IntKind.wrap .u32 ((IntKind.wrap .u32 ((IntKind.wrap .u32 ((IntKind.wrap .u32 (t26_33 + (ixor .u32 (ixor .u32 r43 r44) r45))) + (ixor .u32 (iand .u32 t22_23 t38_35) (iand .u32 (inot .u32 t22_23) t43_37)))) + t49_39)) + t53_41)) + (IntKind.wrap .u32 ((ixor .u32 (ixor .u32 r54 r55) r56) + (ixor .u32 (ixor .u32 (iand .u32 t24_25 t65_46) (iand .u32 t24_25 t69_48)) (iand .u32 t73_50 t75_52)))))), .int .u32 t24_25, .int .u32 t84_57, .int .u32 t86_59, .int .u32 (IntKind.wrap .u32 (t88_61 + (IntKind.wrap .u32 ((IntKind.wrap .u32 ((IntKind.wrap .u32 ((IntKind.wrap .u32 (t26_33 + (ixor .u32 (ixor .u32 r43 r44) r45))) + (ixor .u32 (iand .u32 t22_23 t38_35) (iand .u32 (inot .u32 t22_23) t43_37)))) + t49_39)) + t53_41)))), .int .u32 t22_23, .int .u32 t93_63, .int .u32 t95_65]) sz_431 h7 rfl (all_cons rfl (all_cons rfl (all_cons rfl (all_cons rfl (all_cons rfl (all_cons rfl (all_cons rfl (all_cons rfl all_nil)))))))) (hP.wrs g67) ?_
   replace hP := hP.stos [.int .u32 (IntKind.wrap .u32 ((IntKind.wrap .u32 ((IntKind.wrap .u32 ((IntKind.wrap .u32 ((IntKind.wrap .u32 (t26_33 + (ixor .u32 (ixor .u32 r43 r44) r45))) + (ixor .u32 (iand .u32 t22_23 t38_35) (iand .u32 (inot .u32 t22_23) t43_37)))) + t49_39)) + t53_41)) + (IntKind.wrap .u32 ((ixor .u32 (ixor .u32 r54 r55) r56) + (ixor .u32 (ixor .u32 (iand .u32 t24_25 t65_46) (iand .u32 t24_25 t69_48)) (iand .u32 t73_50 t75_52)))))), .int .u32 t24_25, .int .u32 t84_57, .int .u32 t86_59, .int .u32 (IntKind.wrap .u32 (t88_61 + (IntKind.wrap .u32 ((IntKind.wrap .u32 ((IntKind.wrap .u32 ((IntKind.wrap .u32 (t26_33 + (ixor .u32 (ixor .u32 r43 r44) r45))) + (ixor .u32 (iand .u32 t22_23 t38_35) (iand .u32 (inot .u32 t22_23) t43_37)))) + t49_39)) + t53_41)))), .int .u32 t22_23, .int .u32 t93_63, .int .u32 t95_65] g67
   refine JO_nil ?_
   refine J_region (by decide) ?_
   refine JO_iop (op := .add) (k := .i64) (a := t18_) (b := 1) h18 rfl trivial ?_
   refine JO_move (v := .int .i64 (IntKind.wrap .i64 (t18_ + 1))) rfl ?_
   refine JO_nil ?_
   exact ⟨IntKind.wrap .i64 (t18_ + 1), _, ⟨hD, h2, h4, h5, h6, h7, rfl, hP⟩, H⟩
  ·
   replace H := H.2 hc_
   clear hc_
   refine J_exit ?_
   exact (show F385_1 K X _ _ from ⟨a2_, b4_, a7_, b4_c0, b4_c1, b4_c2, b4_c3, b4_c4, b4_c5, b4_c6, b4_c7, _, hD, h2, h4, h7, hP, H⟩)
 ·
  rintro e Mp ⟨a2_, b4_, a7_, b4_c0, b4_c1, b4_c2, b4_c3, b4_c4, b4_c5, b4_c6, b4_c7, M, hD, h2, h4, h7, hP, H⟩
  unfold S385_1 at H
  refine J_seq ?_
  refine J_seq ?_
  refine J_region (by decide) ?_
  refine JO_move (v := .int .i64 0) rfl ?_
  refine JO_nil ?_
  refine J_blockF (F385_3 K X) ?_ ?_
  ·
   refine J_of (F385_4 K X) (show F385_4 K X _ _ from ⟨a2_, b4_, a7_, 0, b4_c0, b4_c1, b4_c2, b4_c3, b4_c4, b4_c5, b4_c6, b4_c7, _, hD, h2, h4, h7, rfl, hP, H⟩) ?_
   rintro e Mp ⟨a2_, b4_, a7_, t98_, b4_c0, b4_c1, b4_c2, b4_c3, b4_c4, b4_c5, b4_c6, b4_c7, M, hD, h2, h4, h7, h98, hP, H⟩
   unfold S385_4 at H
   refine J_loopP (σ := Int) (body := fun (s_ : Int) next4 => S385_4b a2_ a7_ b4_c0 b4_c1 b4_c2 b4_c3 b4_c4 b4_c5 b4_c6 b4_c7 K X s_ next4) (s := t98_) (M := M) (fun (s_ : Int) (e : Env) (M Mp : Mem) => e.D = [] ∧ e.v 2 = ptr (some a2_) ∧ e.v 4 = ptr (some (b4_, 0)) ∧ e.v 7 = ptr (some a7_) ∧ e.v 98 = .int .i64 s_ ∧ Pv M [(b4_, .cells #[.int .u32 b4_c0, .int .u32 b4_c1, .int .u32 b4_c2, .int .u32 b4_c3, .int .u32 b4_c4, .int .u32 b4_c5, .int .u32 b4_c6, .int .u32 b4_c7] 431 (0, 0))] Mp) ?_ ⟨hD, h2, h4, h7, h98, hP⟩ H
   rintro next4 t98_ e M Mp ⟨hD, h2, h4, h7, h98, hP⟩ H
   replace H : S385_4b a2_ a7_ b4_c0 b4_c1 b4_c2 b4_c3 b4_c4 b4_c5 b4_c6 b4_c7 K X t98_ next4 M := H
   unfold S385_4b at H
   refine J_seq ?_
   refine J_region (by decide) ?_
   refine JO_iop (op := .lss) (k := .i64) (a := t98_) (b := 8) h98 rfl trivial ?_
   refine JO_nil ?_
   refine J_seq ?_
   refine J_cond (t := decide (t98_ < 8)) rfl (fun hc_ => ?_) (fun hc_ => ?_)
   ·
    replace H := H.1 hc_
    clear hc_
    refine J_skip ?_
    refine J_seq ?_
    refine J_block ?_
    refine J_seq ?_
    refine J_region (by decide) ?_
    refine JO_move (v := .int .i64 t98_) h98 ?_
    refine JO_assign (v := .int .i64 t98_) rfl ?_
    refine JO_nil ?_
    refine J_draw [0, 0, 1, 0, 0, 1, 0, 0, 3] (.cho 0 (.cho 1 (.cho 3 (.cho 4 (.cho 2 (.cho 5 (.cho 6 (.cho 7 (.cho 8 .done .none) .none) .none) .none) .none) .none) .none) .none) .none) rfl (by kernel_rfl) ?_
    refine JE_one ?_
    refine ST0 (fun _ h => by cases h) (fun w => OV_move (v := .int .i64 t98_) rfl w) ?_
    refine JE_one ?_
    obtain ⟨g68, g69, H⟩ := H
    refine ST0 (fun _ h => by cases h) (fun w => OV_indexAddrA (p := a7_) (i := t98_) ea_431 (by exact h7) rfl g68 g69 w) ?_
    obtain ⟨p70, hq_⟩ : ∃ q : PA, q = (a7_.1, a7_.2 + (t98_ : Int).toNat * 1) := ⟨_, rfl⟩; rw [← hq_] at H ⊢; clear hq_
    refine JE_one ?_
    refine ST0 (fun _ h => by cases h) (fun w => OV_move (v := .int .i64 t98_) rfl w) ?_
    refine JE_one ?_
    obtain ⟨g71, g72, H⟩ := H
    refine ST0 (fun _ h => by cases h) (fun w => OV_indexAddrA (p := a2_) (i := t98_) ea_431 (by exact h2) rfl g71 g72 w) ?_
    obtain ⟨p73, hq_⟩ : ∃ q : PA, q = (a2_.1, a2_.2 + (t98_ : Int).toNat * 1) := ⟨_, rfl⟩; rw [← hq_] at H ⊢; clear hq_
    refine JE_one ?_
    obtain ⟨t103_74, g75, H⟩ := H
    refine ST1 (fun _ h => by cases h) (fun w hs => OV_load (p := p70) (v := .int .u32 t103_74) na_301 rfl (hP.cel g75) w hs) ?_
    refine JE_one ?_
    obtain ⟨t106_76, g77, H⟩ := H
    refine ST1 (fun _ h => by cases h) (fun w hs => OV_load (p := p73) (v := .int .u32 t106_76) na_301 rfl (hP.cel g77) w hs) ?_
    refine JE_one ?_
    refine ST0 (fun _ h => by cases h) (fun w => OV_iop (op := .add) (k := .u32) (a := t103_74) (b := t106_76) rfl rfl trivial w) ?_
    refine JE_one ?_
    obtain ⟨g78, g79, H⟩ := H
    refine ST0 (fun _ h => by cases h) (fun w => OV_indexAddrA (p := a7_) (i := t98_) ea_431 (by exact h7) rfl g78 g79 w) ?_
    obtain ⟨p80, hq_⟩ : ∃ q : PA, q = (a7_.1, a7_.2 + (t98_ : Int).toNat * 1) := ⟨_, rfl⟩; rw [← hq_] at H ⊢; clear hq_
    refine JE_one ?_
    refine ST3 ?_
    obtain ⟨g81, H⟩ := H
    refine JO_store (p := p80) (v := .int .u32 (IntKind.wrap .u32 (t103_74 + t106_76))) sz_301 rfl rfl rfl (hP.wr g81) ?_
    replace hP := hP.sto g81 (.int .u32 (IntKind.wrap .u32 (t103_74 + t106_76)))
    refine Kd_nil ?_
    refine JE_done ?_
    refine J_region (by decide) ?_
    refine JO_iop (op := .add) (k := .i64) (a := t98_) (b := 1) h98 rfl trivial ?_
    refine JO_move (v := .int .i64 (IntKind.wrap .i64 (t98_ + 1))) rfl ?_
    refine JO_nil ?_
    exact ⟨IntKind.wrap .i64 (t98_ + 1), _, ⟨hD, h2, h4, h7, rfl, hP⟩, H⟩
   ·
    replace H := H.2 hc_
    clear hc_
    refine J_exit ?_
    exact (show F385_3 K X _ _ from ⟨b4_, a7_, b4_c0, b4_c1, b4_c2, b4_c3, b4_c4, b4_c5, b4_c6, b4_c7, _, hD, h4, h7, hP, H⟩)
  ·
   rintro e Mp ⟨b4_, a7_, b4_c0, b4_c1, b4_c2, b4_c3, b4_c4, b4_c5, b4_c6, b4_c7, M, hD, h4, h7, hP, H⟩
   unfold S385_3 at H
   refine J_seq ?_
   refine J_region (by decide) ?_
   obtain ⟨t110_0, g82, H⟩ := H
   obtain ⟨t110_1, g83, H⟩ := H
   obtain ⟨t110_2, g84, H⟩ := H
   obtain ⟨t110_3, g85, H⟩ := H
   obtain ⟨t110_4, g86, H⟩ := H
   obtain ⟨t110_5, g87, H⟩ := H
   obtain ⟨t110_6, g88, H⟩ := H
   obtain ⟨t110_7, g89, H⟩ := H
   refine JO_loadAgg (p := a7_) (cs := [.int .u32 t110_0, .int .u32 t110_1, .int .u32 t110_2, .int .u32 t110_3, .int .u32 t110_4, .int .u32 t110_5, .int .u32 t110_6, .int .u32 t110_7]) ag_431 (Nat.succ_pos _) h7 (cels_of (b := a7_.1) (o := a7_.2) ⟨hP.cel g82, hP.cel g83, hP.cel g84, hP.cel g85, hP.cel g86, hP.cel g87, hP.cel g88, hP.cel g89, trivial⟩) ?_
   refine JO_storeAgg (p := (b4_, 0)) (cs := [.int .u32 t110_0, .int .u32 t110_1, .int .u32 t110_2, .int .u32 t110_3, .int .u32 t110_4, .int .u32 t110_5, .int .u32 t110_6, .int .u32 t110_7]) sz_431 h4 rfl (all_cons rfl (all_cons rfl (all_cons rfl (all_cons rfl (all_cons rfl (all_cons rfl (all_cons rfl (all_cons rfl all_nil)))))))) (fun j hj => wrOf (hP.get 0 rfl) (by simp at hj ⊢; omega) (by simp)) ?_
   replace hP : Pv _ [(b4_, .cells #[.int .u32 t110_0, .int .u32 t110_1, .int .u32 t110_2, .int .u32 t110_3, .int .u32 t110_4, .int .u32 t110_5, .int .u32 t110_6, .int .u32 t110_7] 431 (0, 0))] _ := Pv.stosL (i := 0) [.int .u32 t110_0, .int .u32 t110_1, .int .u32 t110_2, .int .u32 t110_3, .int .u32 t110_4, .int .u32 t110_5, .int .u32 t110_6, .int .u32 t110_7] [.int .u32 b4_c0, .int .u32 b4_c1, .int .u32 b4_c2, .int .u32 b4_c3, .int .u32 b4_c4, .int .u32 b4_c5, .int .u32 b4_c6, .int .u32 b4_c7] 0 _ _ hP rfl
   refine JO_nil ?_
   exact J_ret (kret (pan := X)  hD (fun _ _ hb => hP.sub hb) (resOk (rs := [.cell 4 431]) (vs := [.agg #[.int .u32 t110_0, .int .u32 t110_1, .int .u32 t110_2, .int .u32 t110_3, .int .u32 t110_4, .int .u32 t110_5, .int .u32 t110_6, .int .u32 t110_7]]) rfl ⟨item_cellAgg (p := (b4_, 0)) (cs := [.int .u32 t110_0, .int .u32 t110_1, .int .u32 t110_2, .int .u32 t110_3, .int .u32 t110_4, .int .u32 t110_5, .int .u32 t110_6, .int .u32 t110_7]) ag_431 (Nat.succ_pos _) (by exact h4) (cels_of (b := b4_) (o := 0) ⟨celOf (hP.get 0 rfl) rfl, celOf (hP.get 0 rfl) rfl, celOf (hP.get 0 rfl) rfl, celOf (hP.get 0 rfl) rfl, celOf (hP.get 0 rfl) rfl, celOf (hP.get 0 rfl) rfl, celOf (hP.get 0 rfl) rfl, celOf (hP.get 0 rfl) rfl, trivial⟩), trivial⟩) ⟨t110_0, t110_1, t110_2, t110_3, t110_4, t110_5, t110_6, t110_7, rfl, H⟩)

/-! brazier/digest.constants -/
def S393 (K : List Value → Mem → Prop) (X : List PanicEntry → Mem → Prop) : Mem → Prop :=
 new (.cells (List.replicate 64 (.int .u32 0)).toArray 450 (0, 0)) fun b1 => stA 64 (b1, 0) ([.int .u32 1116352408, .int .u32 1899447441, .int .u32 3049323471, .int .u32 3921009573, .int .u32 961987163, .int .u32 1508970993, .int .u32 2453635748, .int .u32 2870763221, .int .u32 3624381080, .int .u32 310598401, .int .u32 607225278, .int .u32 1426881987, .int .u32 1925078388, .int .u32 2162078206, .int .u32 2614888103, .int .u32 3248222580, .int .u32 3835390401, .int .u32 4022224774, .int .u32 264347078, .int .u32 604807628, .int .u32 770255983, .int .u32 1249150122, .int .u32 1555081692, .int .u32 1996064986, .int .u32 2554220882, .int .u32 2821834349, .int .u32 2952996808, .int .u32 3210313671, .int .u32 3336571891, .int .u32 3584528711, .int .u32 113926993, .int .u32 338241895, .int .u32 666307205, .int .u32 773529912, .int .u32 1294757372, .int .u32 1396182291, .int .u32 1695183700, .int .u32 1986661051, .int .u32 2177026350, .int .u32 2456956037, .int .u32 2730485921, .int .u32 2820302411, .int .u32 3259730800, .int .u32 3345764771, .int .u32 3516065817, .int .u32 3600352804, .int .u32 4094571909, .int .u32 275423344, .int .u32 430227734, .int .u32 506948616, .int .u32 659060556, .int .u32 883997877, .int .u32 958139571, .int .u32 1322822218, .int .u32 1537002063, .int .u32 1747873779, .int .u32 1955562222, .int .u32 2024104815, .int .u32 2227730452, .int .u32 2361852424, .int .u32 2428436474, .int .u32 2756734187, .int .u32 3204031479, .int .u32 3329325298] : List Value) <| ldA 64 (b1, 0) fun xs5 => K xs5
theorem br393 {K : List Value → Mem → Prop} {X : List PanicEntry → Mem → Prop} {M : Mem} (H : S393  K X M) :
  Spec Tryz.prog 393 #[] M (fun v_ M => ∃ (r0 : List Value), v_ = .agg r0.toArray ∧ K r0 M) X := by
 refine spec_of_J (args := []) Tryz.func393 rfl Tryz.ntmps393 (Nat.le_of_ble_eq_true rfl) ?_
 have hD : (⟨fun i => ([] : List Value).getD i undef, []⟩ : Env).D = [] := rfl
 have hP := Pv.nil M
 have hX := @kx_of Tryz.prog Tryz.f393 (fun v_ M => ∃ (r0 : List Value), v_ = .agg r0.toArray ∧ K r0 M) X
 unfold S393 at H
 refine J_seq ?_
 refine J_region (by decide) ?_
 refine JO_alloc (cs := List.replicate 64 (.int .u32 0)) zc_450 ?_
 intro b1 hb
 replace H := H b1 (hP.out hb).1
 replace hP := hP.new hb (.cells (List.replicate 64 (.int .u32 0)).toArray 450 (0, 0))
 refine JO_nil ?_
 refine J_seq ?_
 refine J_region (by decide) ?_
 refine JO_bldA (vs := [(0, .int .u32 1116352408), (1, .int .u32 1899447441), (2, .int .u32 3049323471), (3, .int .u32 3921009573), (4, .int .u32 961987163), (5, .int .u32 1508970993), (6, .int .u32 2453635748), (7, .int .u32 2870763221), (8, .int .u32 3624381080), (9, .int .u32 310598401), (10, .int .u32 607225278), (11, .int .u32 1426881987), (12, .int .u32 1925078388), (13, .int .u32 2162078206), (14, .int .u32 2614888103), (15, .int .u32 3248222580), (16, .int .u32 3835390401), (17, .int .u32 4022224774), (18, .int .u32 264347078), (19, .int .u32 604807628), (20, .int .u32 770255983), (21, .int .u32 1249150122), (22, .int .u32 1555081692), (23, .int .u32 1996064986), (24, .int .u32 2554220882), (25, .int .u32 2821834349), (26, .int .u32 2952996808), (27, .int .u32 3210313671), (28, .int .u32 3336571891), (29, .int .u32 3584528711), (30, .int .u32 113926993), (31, .int .u32 338241895), (32, .int .u32 666307205), (33, .int .u32 773529912), (34, .int .u32 1294757372), (35, .int .u32 1396182291), (36, .int .u32 1695183700), (37, .int .u32 1986661051), (38, .int .u32 2177026350), (39, .int .u32 2456956037), (40, .int .u32 2730485921), (41, .int .u32 2820302411), (42, .int .u32 3259730800), (43, .int .u32 3345764771), (44, .int .u32 3516065817), (45, .int .u32 3600352804), (46, .int .u32 4094571909), (47, .int .u32 275423344), (48, .int .u32 430227734), (49, .int .u32 506948616), (50, .int .u32 659060556), (51, .int .u32 883997877), (52, .int .u32 958139571), (53, .int .u32 1322822218), (54, .int .u32 1537002063), (55, .int .u32 1747873779), (56, .int .u32 1955562222), (57, .int .u32 2024104815), (58, .int .u32 2227730452), (59, .int .u32 2361852424), (60, .int .u32 2428436474), (61, .int .u32 2756734187), (62, .int .u32 3204031479), (63, .int .u32 3329325298)]) (cs := [.int .u32 1116352408, .int .u32 1899447441, .int .u32 3049323471, .int .u32 3921009573, .int .u32 961987163, .int .u32 1508970993, .int .u32 2453635748, .int .u32 2870763221, .int .u32 3624381080, .int .u32 310598401, .int .u32 607225278, .int .u32 1426881987, .int .u32 1925078388, .int .u32 2162078206, .int .u32 2614888103, .int .u32 3248222580, .int .u32 3835390401, .int .u32 4022224774, .int .u32 264347078, .int .u32 604807628, .int .u32 770255983, .int .u32 1249150122, .int .u32 1555081692, .int .u32 1996064986, .int .u32 2554220882, .int .u32 2821834349, .int .u32 2952996808, .int .u32 3210313671, .int .u32 3336571891, .int .u32 3584528711, .int .u32 113926993, .int .u32 338241895, .int .u32 666307205, .int .u32 773529912, .int .u32 1294757372, .int .u32 1396182291, .int .u32 1695183700, .int .u32 1986661051, .int .u32 2177026350, .int .u32 2456956037, .int .u32 2730485921, .int .u32 2820302411, .int .u32 3259730800, .int .u32 3345764771, .int .u32 3516065817, .int .u32 3600352804, .int .u32 4094571909, .int .u32 275423344, .int .u32 430227734, .int .u32 506948616, .int .u32 659060556, .int .u32 883997877, .int .u32 958139571, .int .u32 1322822218, .int .u32 1537002063, .int .u32 1747873779, .int .u32 1955562222, .int .u32 2024104815, .int .u32 2227730452, .int .u32 2361852424, .int .u32 2428436474, .int .u32 2756734187, .int .u32 3204031479, .int .u32 3329325298]) ea_450 zc_450 (mpc rfl (mpc rfl (mpc rfl (mpc rfl (mpc rfl (mpc rfl (mpc rfl (mpc rfl (mpc rfl (mpc rfl (mpc rfl (mpc rfl (mpc rfl (mpc rfl (mpc rfl (mpc rfl (mpc rfl (mpc rfl (mpc rfl (mpc rfl (mpc rfl (mpc rfl (mpc rfl (mpc rfl (mpc rfl (mpc rfl (mpc rfl (mpc rfl (mpc rfl (mpc rfl (mpc rfl (mpc rfl (mpc rfl (mpc rfl (mpc rfl (mpc rfl (mpc rfl (mpc rfl (mpc rfl (mpc rfl (mpc rfl (mpc rfl (mpc rfl (mpc rfl (mpc rfl (mpc rfl (mpc rfl (mpc rfl (mpc rfl (mpc rfl (mpc rfl (mpc rfl (mpc rfl (mpc rfl (mpc rfl (mpc rfl (mpc rfl (mpc rfl (mpc rfl (mpc rfl (mpc rfl (mpc rfl (mpc rfl (mpc rfl mpn)))))))))))))))))))))))))))))))))))))))))))))))))))))))))))))))) (by kernel_rfl) ?_
 obtain ⟨g3, g4, g2, H⟩ := H
 refine JO_storeAgg (p := (b1, 0)) (cs := ([.int .u32 1116352408, .int .u32 1899447441, .int .u32 3049323471, .int .u32 3921009573, .int .u32 961987163, .int .u32 1508970993, .int .u32 2453635748, .int .u32 2870763221, .int .u32 3624381080, .int .u32 310598401, .int .u32 607225278, .int .u32 1426881987, .int .u32 1925078388, .int .u32 2162078206, .int .u32 2614888103, .int .u32 3248222580, .int .u32 3835390401, .int .u32 4022224774, .int .u32 264347078, .int .u32 604807628, .int .u32 770255983, .int .u32 1249150122, .int .u32 1555081692, .int .u32 1996064986, .int .u32 2554220882, .int .u32 2821834349, .int .u32 2952996808, .int .u32 3210313671, .int .u32 3336571891, .int .u32 3584528711, .int .u32 113926993, .int .u32 338241895, .int .u32 666307205, .int .u32 773529912, .int .u32 1294757372, .int .u32 1396182291, .int .u32 1695183700, .int .u32 1986661051, .int .u32 2177026350, .int .u32 2456956037, .int .u32 2730485921, .int .u32 2820302411, .int .u32 3259730800, .int .u32 3345764771, .int .u32 3516065817, .int .u32 3600352804, .int .u32 4094571909, .int .u32 275423344, .int .u32 430227734, .int .u32 506948616, .int .u32 659060556, .int .u32 883997877, .int .u32 958139571, .int .u32 1322822218, .int .u32 1537002063, .int .u32 1747873779, .int .u32 1955562222, .int .u32 2024104815, .int .u32 2227730452, .int .u32 2361852424, .int .u32 2428436474, .int .u32 2756734187, .int .u32 3204031479, .int .u32 3329325298] : List Value)) (by rw [g3]; exact sz_450) rfl rfl g4 (hP.wrs g2) ?_
 replace hP := hP.stos ([.int .u32 1116352408, .int .u32 1899447441, .int .u32 3049323471, .int .u32 3921009573, .int .u32 961987163, .int .u32 1508970993, .int .u32 2453635748, .int .u32 2870763221, .int .u32 3624381080, .int .u32 310598401, .int .u32 607225278, .int .u32 1426881987, .int .u32 1925078388, .int .u32 2162078206, .int .u32 2614888103, .int .u32 3248222580, .int .u32 3835390401, .int .u32 4022224774, .int .u32 264347078, .int .u32 604807628, .int .u32 770255983, .int .u32 1249150122, .int .u32 1555081692, .int .u32 1996064986, .int .u32 2554220882, .int .u32 2821834349, .int .u32 2952996808, .int .u32 3210313671, .int .u32 3336571891, .int .u32 3584528711, .int .u32 113926993, .int .u32 338241895, .int .u32 666307205, .int .u32 773529912, .int .u32 1294757372, .int .u32 1396182291, .int .u32 1695183700, .int .u32 1986661051, .int .u32 2177026350, .int .u32 2456956037, .int .u32 2730485921, .int .u32 2820302411, .int .u32 3259730800, .int .u32 3345764771, .int .u32 3516065817, .int .u32 3600352804, .int .u32 4094571909, .int .u32 275423344, .int .u32 430227734, .int .u32 506948616, .int .u32 659060556, .int .u32 883997877, .int .u32 958139571, .int .u32 1322822218, .int .u32 1537002063, .int .u32 1747873779, .int .u32 1955562222, .int .u32 2024104815, .int .u32 2227730452, .int .u32 2361852424, .int .u32 2428436474, .int .u32 2756734187, .int .u32 3204031479, .int .u32 3329325298] : List Value) g2
 refine JO_nil ?_
 obtain ⟨xs5, g6, g7, H⟩ := H
 exact J_ret (kret (pan := X)  hD (fun _ _ hb => hP.sub hb) (resOk (rs := [.cell 0 450]) (vs := [.agg xs5.toArray]) rfl ⟨item_cellAgg (p := (b1, 0)) (cs := xs5) (ag_450.trans g6.symm) (by rw [g6]; decide) rfl (fun i v hv => hP.cel (g7 i v hv)), trivial⟩) ⟨xs5, rfl, H⟩)

end Go.Proofs.YtdndpmlapcbjaaaGreat

namespace Go.Proofs.YtdndpmlapcbjaaaGreat
open Go Go.RowKit
set_option linter.unusedVariables false
set_option maxRecDepth 100000

/-! brazier/brazierlaw06.CasTurned -/
def S3_3 (t64_ : Bool) (K : Bool → Mem → Prop) (X : List PanicEntry → Mem → Prop) : Mem → Prop :=
 K t64_
def S3_4 (t112_ : Bool) (K : Bool → Mem → Prop) (X : List PanicEntry → Mem → Prop) : Mem → Prop :=
 K t112_
def S3_7 (t141_ : Bool) (K : Bool → Mem → Prop) (X : List PanicEntry → Mem → Prop) : Mem → Prop :=
 K t141_
def S3_6 (t138_ : Bool) (K : Bool → Mem → Prop) (X : List PanicEntry → Mem → Prop) : Mem → Prop :=
 ite' t138_ (call 15 [] X fun v_ M => ∃ (r44 : Bool), v_ = .bool r44 ∧ ( S3_7 r44 K X) M) (S3_7 false K X)
def S3_5 (t24_ : Bool) (t134_ : Bool) (K : Bool → Mem → Prop) (X : List PanicEntry → Mem → Prop) : Mem → Prop :=
 ite' t134_ (S3_6 (!t24_) K X) (S3_6 false K X)
def S3_1 (t0_ : Sl) (t2_ : Int) (t7_ : Int) (t8_ : Int) (t9_ : Option PA) (t10_ : Option PA) (K : Bool → Mem → Prop) (X : List PanicEntry → Mem → Prop) : Mem → Prop :=
 call 14 [ptr t9_] X fun v_ M => ∃ (r15 : Sl), v_ = Sl.v r15 ∧ ( ite' ((r15.n : Int) == 0) (ite' ((t0_.n : Int) == 0) (call 15 [] X fun v_ M => ∃ (r18 : Bool), v_ = .bool r18 ∧ ( S3_3 r18 K X) M) (S3_3 false K X)) (must ((IntKind.wrap .u64 (r15.n : Int)) ≠ 0) <| ix r15 1 (IntKind.wrap .i64 (Int.tmod t7_ (IntKind.wrap .u64 (r15.n : Int)))) fun p24 => ldS p24 fun t73_25 => call 16 [ptr t9_, .string t73_25] X fun v_ M => ∃ (r27_0 : Sl) (r27_1 : Int), v_ = .tuple #[Sl.v r27_0, .int .i64 r27_1] ∧ ( call 17 [Sl.v r27_0] X fun v_ M => ∃ (r28_0 : Sl) (r28_1 : Sl) (r28_2 : Bool), v_ = .tuple #[Sl.v r28_0, Sl.v r28_1, .bool r28_2] ∧ ( ite' (!r28_2) (K false) (must ((IntKind.wrap .u64 (IntKind.wrap .i64 ((r28_0.n : Int) + 4))) ≠ 0) <| call 18 [ptr t9_, .string t73_25, .int .i64 (IntKind.wrap .i64 (4 + (IntKind.wrap .i64 (Int.tmod (IntKind.wrap .u64 t8_) (IntKind.wrap .u64 (IntKind.wrap .i64 ((r28_0.n : Int) + 4))))))), .int .u8 t2_] X fun v_ M => ∃ (r30 : Bool), v_ = .bool r30 ∧ ( ite' (r30 != true) (K false) (ite' (t2_ == 0) (call 19 [ptr t10_] X fun v_ M => ∃ (r31 : Int), v_ = .int .i64 r31 ∧ ( ite' (r31 == (r15.n : Int)) (call 15 [] X fun v_ M => ∃ (r34 : Bool), v_ = .bool r34 ∧ ( S3_4 r34 K X) M) (S3_4 false K X)) M) (call 12 [ptr t9_, .int .i64 2] X fun v_ M => ∃ (r35_0 : Option PA) (r35_1 : Int), v_ = .tuple #[ptr r35_0, .int .i64 r35_1] ∧ ( call 20 [ptr r35_0, Sl.v r28_0] X fun v_ M => ∃ (r36_0 : Sl) (r36_1 : Bool), v_ = .tuple #[Sl.v r36_0, .bool r36_1] ∧ ( ite' (r35_1 == 0) (call 14 [ptr t9_] X fun v_ M => ∃ (r39 : Sl), v_ = Sl.v r39 ∧ ( S3_5 r36_1 ((r39.n : Int) == (IntKind.wrap .i64 ((r15.n : Int) - 1))) K X) M) (S3_5 r36_1 false K X)) M) M))) M)) M) M)) M
def S3_2b (t0_ : Sl) (t2_ : Int) (t7_ : Int) (t8_ : Int) (t9_ : Option PA) (t10_ : Option PA) (t41_ : Sl) (t42_ : Int) (K : Bool → Mem → Prop) (X : List PanicEntry → Mem → Prop) (t43_ : Int) (next2 : Int → Mem → Prop) : Mem → Prop :=
 ite' (decide (t43_ < t42_)) (ix t41_ 3 t43_ fun p9 => ldI .u64 (p9.1, p9.2) fun t46_0 => ldL (p9.1, p9.2 + 1) fun t46_1 => ldL (p9.1, p9.2 + 2) fun t46_2 => call 13 [ptr t10_, Sl.v t46_1, Sl.v t46_2] X fun v_ M => ∃ (r14 : Int), v_ = .int .i64 r14 ∧ ( next2 (IntKind.wrap .i64 (t43_ + 1))) M) (S3_1 t0_ t2_ t7_ t8_ t9_ t10_ K X)
def S3_2 (t0_ : Sl) (t2_ : Int) (t7_ : Int) (t8_ : Int) (t9_ : Option PA) (t10_ : Option PA) (t41_ : Sl) (t42_ : Int) (t43_ : Int) (K : Bool → Mem → Prop) (X : List PanicEntry → Mem → Prop) : Mem → Prop :=
 Lp (fun (s_ : Int) next2 => S3_2b t0_ t2_ t7_ t8_ t9_ t10_ t41_ t42_ K X s_ next2) t43_
def S3 (t0 : Sl) (t1_0 : Int) (t1_1 : Int) (t2 : Int) (K : Bool → Mem → Prop) (X : List PanicEntry → Mem → Prop) : Mem → Prop :=
 call 10 [Sl.v t0] X fun v_ M => ∃ (r2 : Sl), v_ = Sl.v r2 ∧ ( call 11 [.int .i64 1048576] X fun v_ M => ∃ (r3 : Option PA), v_ = ptr r3 ∧ ( call 12 [ptr r3, .int .i64 2] X fun v_ M => ∃ (r4_0 : Option PA) (r4_1 : Int), v_ = .tuple #[ptr r4_0, .int .i64 r4_1] ∧ ( ite' (r4_1 != 0) (K false) (S3_2 r2 t2 t1_0 (IntKind.wrap .i64 (Int.tmod t1_1 1073741824)) r3 r4_0 r2 (r2.n : Int) 0 K X)) M) M) M
abbrev F3_2 (K : Bool → Mem → Prop) (X : List PanicEntry → Mem → Prop) (e : Env) (Mp : Mem) : Prop := ∃ (t0_ : Sl) (t2_ : Int) (t7_ : Int) (t8_ : Int) (t9_ : Option PA) (t10_ : Option PA) (t41_ : Sl) (t42_ : Int) (t43_ : Int) (M : Mem), e.D = [] ∧ e.v 0 = Sl.v t0_ ∧ e.v 2 = .int .u8 t2_ ∧ e.v 7 = .int .u64 t7_ ∧ e.v 8 = .int .i64 t8_ ∧ e.v 9 = ptr t9_ ∧ e.v 10 = ptr t10_ ∧ e.v 41 = Sl.v t41_ ∧ e.v 42 = .int .i64 t42_ ∧ e.v 43 = .int .i64 t43_ ∧ Pv M [] Mp ∧ S3_2 t0_ t2_ t7_ t8_ t9_ t10_ t41_ t42_ t43_ K X M
abbrev F3_3 (K : Bool → Mem → Prop) (X : List PanicEntry → Mem → Prop) (e : Env) (Mp : Mem) : Prop := ∃ (t64_ : Bool) (M : Mem), e.D = [] ∧ e.v 64 = .bool t64_ ∧ Pv M [] Mp ∧ S3_3 t64_ K X M
abbrev F3_4 (K : Bool → Mem → Prop) (X : List PanicEntry → Mem → Prop) (e : Env) (Mp : Mem) : Prop := ∃ (t112_ : Bool) (M : Mem), e.D = [] ∧ e.v 112 = .bool t112_ ∧ Pv M [] Mp ∧ S3_4 t112_ K X M
abbrev F3_7 (K : Bool → Mem → Prop) (X : List PanicEntry → Mem → Prop) (e : Env) (Mp : Mem) : Prop := ∃ (t141_ : Bool) (M : Mem), e.D = [] ∧ e.v 141 = .bool t141_ ∧ Pv M [] Mp ∧ S3_7 t141_ K X M
abbrev F3_6 (K : Bool → Mem → Prop) (X : List PanicEntry → Mem → Prop) (e : Env) (Mp : Mem) : Prop := ∃ (t138_ : Bool) (M : Mem), e.D = [] ∧ e.v 138 = .bool t138_ ∧ Pv M [] Mp ∧ S3_6 t138_ K X M
abbrev F3_5 (K : Bool → Mem → Prop) (X : List PanicEntry → Mem → Prop) (e : Env) (Mp : Mem) : Prop := ∃ (t24_ : Bool) (t134_ : Bool) (M : Mem), e.D = [] ∧ e.v 24 = .bool t24_ ∧ e.v 134 = .bool t134_ ∧ Pv M [] Mp ∧ S3_5 t24_ t134_ K X M
abbrev F3_1 (K : Bool → Mem → Prop) (X : List PanicEntry → Mem → Prop) (e : Env) (Mp : Mem) : Prop := ∃ (t0_ : Sl) (t2_ : Int) (t7_ : Int) (t8_ : Int) (t9_ : Option PA) (t10_ : Option PA) (M : Mem), e.D = [] ∧ e.v 0 = Sl.v t0_ ∧ e.v 2 = .int .u8 t2_ ∧ e.v 7 = .int .u64 t7_ ∧ e.v 8 = .int .i64 t8_ ∧ e.v 9 = ptr t9_ ∧ e.v 10 = ptr t10_ ∧ Pv M [] Mp ∧ S3_1 t0_ t2_ t7_ t8_ t9_ t10_ K X M
theorem br3 {t0 : Sl} {t1_0 : Int} {t1_1 : Int} {t2 : Int} {K : Bool → Mem → Prop} {X : List PanicEntry → Mem → Prop} {M : Mem} (H : S3 t0 t1_0 t1_1 t2 K X M) :
  Spec Tryz.prog 3 #[Sl.v t0, .agg #[.int .u64 t1_0, .int .u64 t1_1], .int .u8 t2] M (fun v_ M => ∃ (r0 : Bool), v_ = .bool r0 ∧ K r0 M) X := by
 refine spec_of_J (args := [Sl.v t0, .agg #[.int .u64 t1_0, .int .u64 t1_1], .int .u8 t2]) Tryz.func3 rfl Tryz.ntmps3 (Nat.le_of_ble_eq_true rfl) ?_
 have hD : (⟨fun i => ([Sl.v t0, .agg #[.int .u64 t1_0, .int .u64 t1_1], .int .u8 t2] : List Value).getD i undef, []⟩ : Env).D = [] := rfl
 have hP := Pv.nil M
 have hX := @kx_of Tryz.prog Tryz.f3 (fun v_ M => ∃ (r0 : Bool), v_ = .bool r0 ∧ K r0 M) X
 unfold S3 at H
 refine J_seq ?_
 refine J_region (by decide) ?_
 refine JO_box (v := .agg #[.int .u64 t1_0, .int .u64 t1_1]) rfl ?_
 intro b1 hb
 replace hP : Pv _ [(b1, .cells #[.int .u64 t1_0, .int .u64 t1_1] 24 (0, 0))] _ := hP.box hb _
 refine JO_assign (v := .bool false) rfl ?_
 refine JO_nil ?_
 refine J_seq ?_
 refine J_draw [0, 1, 0, 1, 0, 0, 0, 0] (.cho 0 (.cho 2 (.cho 1 (.cho 6 (.cho 3 (.cho 4 (.cho 5 (.cho 7 .done .none) .none) .none) .none) .none) .none) .none) .none) rfl (by kernel_rfl) ?_
 refine JE_one ?_
 refine ST0 (fun _ h => by cases h) (fun w => OV_indexAddrA (p := (b1, 0)) (i := 0) ea_24 rfl rfl (by decide) (by decide) w) ?_
 refine JE_one ?_
 refine ST0 (fun _ h => by cases h) (fun w => OV_indexAddrA (p := (b1, 0)) (i := 1) ea_24 rfl rfl (by decide) (by decide) w) ?_
 refine JE_one ?_
 refine ST1 (fun _ h => by cases h) (fun w hs => OV_load (p := (b1, 0)) (v := .int .u64 t1_0) na_23 rfl (celOf (hP.get 0 rfl) rfl) w hs) ?_
 refine JE_one ?_
 refine ST0 (fun _ h => by cases h) (fun w => OV_assign (v := .int .u64 t1_0) rfl w) ?_
 refine JE_one ?_
 refine ST1 (fun _ h => by cases h) (fun w hs => OV_load (p := (b1, 1)) (v := .int .u64 t1_1) na_23 rfl (celOf (hP.get 0 rfl) rfl) w hs) ?_
 refine JE_one ?_
 refine ST0 (fun _ h => by cases h) (fun w => OV_iop (op := .rem) (k := .u64) (a := t1_1) (b := 1073741824) rfl rfl (show (1073741824 : Int) ≠ 0 by decide) w) ?_
 refine JE_one ?_
 refine ST0 (fun _ h => by cases h) (fun w => OV_convI (k := .u64) (k' := .i64) (n := Int.tmod t1_1 1073741824) ul_3 (tt := .int .u64) ul_23 rfl w) ?_
 refine JE_one ?_
 refine ST0 (fun _ h => by cases h) (fun w => OV_assign (v := .int .i64 (IntKind.wrap .i64 (Int.tmod t1_1 1073741824))) rfl w) ?_
 refine JE_done ?_
 refine J_seq ?_
 refine J_region (by decide) ?_
 refine JO_move (v := Sl.v t0) rfl ?_
 refine JO_call Tryz.call10 (vs := [Sl.v t0]) (mc rfl mn) ((hP.spec H).mono ?_ (fun ch Mp h => hX hD h))
 rintro v Mp ⟨M, hP, r2, rfl, H⟩
 refine JO_assign (v := Sl.v r2) rfl ?_
 refine JO_nil ?_
 refine J_seq ?_
 refine J_region (by decide) ?_
 refine JO_call Tryz.call11 (vs := [.int .i64 1048576]) (mc rfl mn) ((hP.spec H).mono ?_ (fun ch Mp h => hX hD h))
 rintro v Mp ⟨M, hP, r3, rfl, H⟩
 refine JO_assign (v := ptr r3) rfl ?_
 refine JO_nil ?_
 refine J_seq ?_
 refine J_region (by decide) ?_
 refine JO_move (v := ptr r3) rfl ?_
 refine JO_call Tryz.call12 (vs := [ptr r3, .int .i64 2]) (mc rfl (mc rfl mn)) ((hP.spec H).mono ?_ (fun ch Mp h => hX hD h))
 rintro v Mp ⟨M, hP, r4_0, r4_1, rfl, H⟩
 refine JO_move (v := .tuple #[ptr r4_0, .int .i64 r4_1]) rfl ?_
 refine JO_extract (vs := #[ptr r4_0, .int .i64 r4_1]) (v := ptr r4_0) rfl rfl ?_
 refine JO_extract (vs := #[ptr r4_0, .int .i64 r4_1]) (v := .int .i64 r4_1) rfl rfl ?_
 refine JO_assign (v := ptr r4_0) rfl ?_
 refine JO_assign (v := .int .i64 r4_1) rfl ?_
 refine JO_nil ?_
 refine J_seq ?_
 refine J_seq ?_
 refine J_region (by decide) ?_
 refine JO_move (v := .int .i64 r4_1) rfl ?_
 refine JO_iop (op := .neq) (k := .i64) (a := r4_1) (b := 0) rfl rfl trivial ?_
 refine JO_nil ?_
 refine J_cond (t := r4_1 != 0) rfl (fun hc_ => ?_) (fun hc_ => ?_)
 ·
  replace H := H.1 hc_
  clear hc_
  refine J_seq ?_
  refine J_region (by decide) ?_
  refine JO_assign (v := .bool false) rfl ?_
  refine JO_nil ?_
  exact J_ret (kret (pan := X)  hD (fun _ _ hb => hP.sub hb) (resOk (rs := [.tmp 6]) (vs := [.bool false]) rfl ⟨item_tmp rfl, trivial⟩) ⟨false, rfl, H⟩)
 ·
  replace H := H.2 hc_
  clear hc_
  refine J_skip ?_
  refine J_seq ?_
  refine J_seq ?_
  refine J_region (by decide) ?_
  refine JO_move (v := Sl.v r2) rfl ?_
  refine JO_len (s := r2) is_22 rfl ?_
  refine JO_move (v := .int .i64 0) rfl ?_
  refine JO_nil ?_
  refine J_blockF (F3_1 K X) ?_ ?_
  ·
   refine J_of (F3_2 K X) (show F3_2 K X _ _ from ⟨r2, t2, t1_0, IntKind.wrap .i64 (Int.tmod t1_1 1073741824), r3, r4_0, r2, (r2.n : Int), 0, _, hD, rfl, rfl, rfl, rfl, rfl, rfl, rfl, rfl, rfl, (hP.drop 0), H⟩) ?_
   rintro e Mp ⟨t0_, t2_, t7_, t8_, t9_, t10_, t41_, t42_, t43_, M, hD, h0, h2, h7, h8, h9, h10, h41, h42, h43, hP, H⟩
   unfold S3_2 at H
   refine J_loopP (σ := Int) (body := fun (s_ : Int) next2 => S3_2b t0_ t2_ t7_ t8_ t9_ t10_ t41_ t42_ K X s_ next2) (s := t43_) (M := M) (fun (s_ : Int) (e : Env) (M Mp : Mem) => e.D = [] ∧ e.v 0 = Sl.v t0_ ∧ e.v 2 = .int .u8 t2_ ∧ e.v 7 = .int .u64 t7_ ∧ e.v 8 = .int .i64 t8_ ∧ e.v 9 = ptr t9_ ∧ e.v 10 = ptr t10_ ∧ e.v 41 = Sl.v t41_ ∧ e.v 42 = .int .i64 t42_ ∧ e.v 43 = .int .i64 s_ ∧ Pv M [] Mp) ?_ ⟨hD, h0, h2, h7, h8, h9, h10, h41, h42, h43, hP⟩ H
   rintro next2 t43_ e M Mp ⟨hD, h0, h2, h7, h8, h9, h10, h41, h42, h43, hP⟩ H
   replace H : S3_2b t0_ t2_ t7_ t8_ t9_ t10_ t41_ t42_ K X t43_ next2 M := H
   unfold S3_2b at H
   refine J_seq ?_
   refine J_region (by decide) ?_
   refine JO_iop (op := .lss) (k := .i64) (a := t43_) (b := t42_) h43 h42 trivial ?_
   refine JO_nil ?_
   refine J_seq ?_
   refine J_cond (t := decide (t43_ < t42_)) rfl (fun hc_ => ?_) (fun hc_ => ?_)
   ·
    replace H := H.1 hc_
    clear hc_
    refine J_skip ?_
    refine J_seq ?_
    refine J_block ?_
    refine J_seq ?_
    refine J_region (by decide) ?_
    obtain ⟨a5, g6, g7, g8, H⟩ := H
    refine JO_indexAddr (s := t41_) (p := a5) (i := t43_) es_22 h41 h43 g6 g7 g8 ?_
    obtain ⟨p9, hq_⟩ : ∃ q : PA, q = (a5.1, a5.2 + (t43_ : Int).toNat * 3) := ⟨_, rfl⟩; rw [← hq_] at H ⊢; clear hq_
    obtain ⟨t46_0, g10, H⟩ := H
    obtain ⟨t46_1, g11, H⟩ := H
    obtain ⟨t46_2, g12, H⟩ := H
    refine JO_loadAgg (p := p9) (cs := [.int .u64 t46_0, Sl.v t46_1, Sl.v t46_2]) ag_34 (Nat.succ_pos _) rfl (cels_of (b := p9.1) (o := p9.2) ⟨hP.cel g10, hP.cel g11, hP.cel g12, trivial⟩) ?_
    refine JO_alloc (cs := [.int .u64 0, Sl.v (⟨none, 0, 0⟩ : Sl), Sl.v (⟨none, 0, 0⟩ : Sl)]) zc_34 ?_
    intro b13 hb
    replace hP : Pv _ [(b13, .cells #[.int .u64 0, Sl.v (⟨none, 0, 0⟩ : Sl), Sl.v (⟨none, 0, 0⟩ : Sl)] 34 (0, 0))] _ := hP.box hb _
    refine JO_storeAgg (p := (b13, 0)) (cs := [.int .u64 t46_0, Sl.v t46_1, Sl.v t46_2]) sz_34 rfl rfl (all_cons rfl (all_cons rfl (all_cons rfl all_nil))) (fun j hj => wrOf (hP.get 0 rfl) (by simp at hj ⊢; omega) (by simp)) ?_
    replace hP : Pv _ [(b13, .cells #[.int .u64 t46_0, Sl.v t46_1, Sl.v t46_2] 34 (0, 0))] _ := Pv.stosL (i := 0) [.int .u64 t46_0, Sl.v t46_1, Sl.v t46_2] [.int .u64 0, Sl.v (⟨none, 0, 0⟩ : Sl), Sl.v (⟨none, 0, 0⟩ : Sl)] 0 _ _ hP rfl
    refine JO_nil ?_
    refine J_region (by decide) ?_
    refine JO_move (v := ptr t10_) h10 ?_
    refine JO_fieldAddr (p := (b13, 0)) fo_34_1 rfl ?_
    refine JO_load (p := (b13, 1)) (v := Sl.v t46_1) na_32 rfl (celOf (hP.get 0 rfl) rfl) ?_
    refine JO_fieldAddr (p := (b13, 0)) fo_34_2 rfl ?_
    refine JO_load (p := (b13, 2)) (v := Sl.v t46_2) na_32 rfl (celOf (hP.get 0 rfl) rfl) ?_
    refine JO_call Tryz.call13 (vs := [ptr t10_, Sl.v t46_1, Sl.v t46_2]) (mc rfl (mc rfl (mc rfl mn))) ((hP.spec H).mono ?_ (fun ch Mp h => hX hD h))
    rintro v Mp ⟨M, hP, r14, rfl, H⟩
    refine JO_nil ?_
    refine J_region (by decide) ?_
    refine JO_iop (op := .add) (k := .i64) (a := t43_) (b := 1) h43 rfl trivial ?_
    refine JO_move (v := .int .i64 (IntKind.wrap .i64 (t43_ + 1))) rfl ?_
    refine JO_nil ?_
    exact ⟨IntKind.wrap .i64 (t43_ + 1), _, ⟨hD, h0, h2, h7, h8, h9, h10, h41, h42, rfl, (hP.drop 0)⟩, H⟩
   ·
    replace H := H.2 hc_
    clear hc_
    refine J_exit ?_
    exact (show F3_1 K X _ _ from ⟨t0_, t2_, t7_, t8_, t9_, t10_, _, hD, h0, h2, h7, h8, h9, h10, hP, H⟩)
  ·
   rintro e Mp ⟨t0_, t2_, t7_, t8_, t9_, t10_, M, hD, h0, h2, h7, h8, h9, h10, hP, H⟩
   unfold S3_1 at H
   refine J_seq ?_
   refine J_region (by decide) ?_
   refine JO_move (v := ptr t9_) h9 ?_
   refine JO_call Tryz.call14 (vs := [ptr t9_]) (mc rfl mn) ((hP.spec H).mono ?_ (fun ch Mp h => hX hD h))
   rintro v Mp ⟨M, hP, r15, rfl, H⟩
   refine JO_assign (v := Sl.v r15) rfl ?_
   refine JO_nil ?_
   refine J_seq ?_
   refine J_seq ?_
   refine J_region (by decide) ?_
   refine JO_move (v := Sl.v r15) rfl ?_
   refine JO_len (s := r15) is_36 rfl ?_
   refine JO_iop (op := .eql) (k := .i64) (a := (r15.n : Int)) (b := 0) rfl rfl trivial ?_
   refine JO_nil ?_
   refine J_cond (t := (r15.n : Int) == 0) rfl (fun hc_ => ?_) (fun hc_ => ?_)
   ·
    replace H := H.1 hc_
    clear hc_
    refine J_seq ?_
    refine J_region (by decide) ?_
    refine JO_move (v := Sl.v t0_) h0 ?_
    refine JO_len (s := t0_) is_22 rfl ?_
    refine JO_iop (op := .eql) (k := .i64) (a := (t0_.n : Int)) (b := 0) rfl rfl trivial ?_
    refine JO_move (v := .bool ((t0_.n : Int) == 0)) rfl ?_
    refine JO_cut 2 (F3_3 K X) ?_ ?_
    ·
     obtain ⟨H1, H2⟩ := H
     obtain hc_ | hc_ := ff_or_tt ((t0_.n : Int) == 0)
     ·
      replace H := H2 hc_
      clear H1 H2
      have hg16 := (congrArg Value.bool hc_ : Value.bool ((t0_.n : Int) == 0) = Value.bool false)
      refine JO_off (s := 62) (c := false) hg16 (by decide) ?_
      refine JO_pick (b := false) (v := .bool false) hg16 rfl ?_
      refine JO_nil ?_
      exact (show F3_3 K X _ _ from ⟨false, _, hD, rfl, hP, H⟩)
     ·
      replace H := H1 hc_
      clear H1 H2
      have hg17 := (congrArg Value.bool hc_ : Value.bool ((t0_.n : Int) == 0) = Value.bool true)
      refine JO_on (s := 62) hg17 ?_
      refine JO_call Tryz.call15 (vs := []) mn ((hP.spec H).mono ?_ (fun ch Mp h => hX hD h))
      rintro v Mp ⟨M, hP, r18, rfl, H⟩
      refine JO_pick (b := true) (v := .bool r18) hg17 rfl ?_
      refine JO_nil ?_
      exact (show F3_3 K X _ _ from ⟨r18, _, hD, rfl, hP, H⟩)
    ·
     rintro e Mp ⟨t64_, M, hD, h64, hP, H⟩
     unfold S3_3 at H
     refine JO_assign (v := .bool t64_) h64 ?_
     refine JO_nil ?_
     exact J_ret (kret (pan := X)  hD (fun _ _ hb => hP.sub hb) (resOk (rs := [.tmp 6]) (vs := [.bool t64_]) rfl ⟨item_tmp rfl, trivial⟩) ⟨t64_, rfl, H⟩)
   ·
    replace H := H.2 hc_
    clear hc_
    refine J_skip ?_
    refine J_seq ?_
    refine J_region (by decide) ?_
    refine JO_move (v := Sl.v r15) rfl ?_
    refine JO_move (v := .int .u64 t7_) h7 ?_
    refine JO_move (v := Sl.v r15) rfl ?_
    refine JO_len (s := r15) is_36 rfl ?_
    refine JO_convI (k := .i64) (k' := .u64) (n := (r15.n : Int)) ul_23 (tt := .int .i64) ul_3 rfl ?_
    obtain ⟨g19, H⟩ := H
    refine JO_iop (op := .rem) (k := .u64) (a := t7_) (b := IntKind.wrap .u64 (r15.n : Int)) rfl rfl g19 ?_
    refine JO_convI (k := .u64) (k' := .i64) (n := Int.tmod t7_ (IntKind.wrap .u64 (r15.n : Int))) ul_3 (tt := .int .u64) ul_23 rfl ?_
    obtain ⟨a20, g21, g22, g23, H⟩ := H
    refine JO_indexAddr (s := r15) (p := a20) (i := IntKind.wrap .i64 (Int.tmod t7_ (IntKind.wrap .u64 (r15.n : Int)))) es_36 rfl rfl g21 g22 g23 ?_
    obtain ⟨p24, hq_⟩ : ∃ q : PA, q = (a20.1, a20.2 + (IntKind.wrap .i64 (Int.tmod t7_ (IntKind.wrap .u64 (r15.n : Int))) : Int).toNat * 1) := ⟨_, rfl⟩; rw [← hq_] at H ⊢; clear hq_
    obtain ⟨t73_25, g26, H⟩ := H
    refine JO_load (p := p24) (v := .string t73_25) na_9 rfl (hP.cel g26) ?_
    refine JO_assign (v := .string t73_25) rfl ?_
    refine JO_nil ?_
    refine J_seq ?_
    refine J_region (by decide) ?_
    refine JO_move (v := ptr t9_) h9 ?_
    refine JO_move (v := .string t73_25) rfl ?_
    refine JO_call Tryz.call16 (vs := [ptr t9_, .string t73_25]) (mc rfl (mc rfl mn)) ((hP.spec H).mono ?_ (fun ch Mp h => hX hD h))
    rintro v Mp ⟨M, hP, r27_0, r27_1, rfl, H⟩
    refine JO_move (v := .tuple #[Sl.v r27_0, .int .i64 r27_1]) rfl ?_
    refine JO_extract (vs := #[Sl.v r27_0, .int .i64 r27_1]) (v := Sl.v r27_0) rfl rfl ?_
    refine JO_extract (vs := #[Sl.v r27_0, .int .i64 r27_1]) (v := .int .i64 r27_1) rfl rfl ?_
    refine JO_assign (v := Sl.v r27_0) rfl ?_
    refine JO_assign (v := .int .i64 r27_1) rfl ?_
    refine JO_nil ?_
    refine J_seq ?_
    refine J_region (by decide) ?_
    refine JO_move (v := Sl.v r27_0) rfl ?_
    refine JO_call Tryz.call17 (vs := [Sl.v r27_0]) (mc rfl mn) ((hP.spec H).mono ?_ (fun ch Mp h => hX hD h))
    rintro v Mp ⟨M, hP, r28_0, r28_1, r28_2, rfl, H⟩
    refine JO_move (v := .tuple #[Sl.v r28_0, Sl.v r28_1, .bool r28_2]) rfl ?_
    refine JO_extract (vs := #[Sl.v r28_0, Sl.v r28_1, .bool r28_2]) (v := Sl.v r28_0) rfl rfl ?_
    refine JO_extract (vs := #[Sl.v r28_0, Sl.v r28_1, .bool r28_2]) (v := Sl.v r28_1) rfl rfl ?_
    refine JO_extract (vs := #[Sl.v r28_0, Sl.v r28_1, .bool r28_2]) (v := .bool r28_2) rfl rfl ?_
    refine JO_assign (v := Sl.v r28_0) rfl ?_
    refine JO_assign (v := Sl.v r28_1) rfl ?_
    refine JO_assign (v := .bool r28_2) rfl ?_
    refine JO_nil ?_
    refine J_seq ?_
    refine J_seq ?_
    refine J_region (by decide) ?_
    refine JO_move (v := .bool r28_2) rfl ?_
    refine JO_not (b := r28_2) rfl ?_
    refine JO_nil ?_
    refine J_cond (t := !r28_2) rfl (fun hc_ => ?_) (fun hc_ => ?_)
    ·
     replace H := H.1 hc_
     clear hc_
     refine J_seq ?_
     refine J_region (by decide) ?_
     refine JO_assign (v := .bool false) rfl ?_
     refine JO_nil ?_
     exact J_ret (kret (pan := X)  hD (fun _ _ hb => hP.sub hb) (resOk (rs := [.tmp 6]) (vs := [.bool false]) rfl ⟨item_tmp rfl, trivial⟩) ⟨false, rfl, H⟩)
    ·
     replace H := H.2 hc_
     clear hc_
     refine J_skip ?_
     refine J_seq ?_
     refine J_region (by decide) ?_
     refine JO_move (v := .int .i64 t8_) h8 ?_
     refine JO_convI (k := .i64) (k' := .u64) (n := t8_) ul_23 (tt := .int .i64) ul_3 rfl ?_
     refine JO_move (v := Sl.v r28_0) rfl ?_
     refine JO_len (s := r28_0) is_32 rfl ?_
     refine JO_iop (op := .add) (k := .i64) (a := (r28_0.n : Int)) (b := 4) rfl rfl trivial ?_
     refine JO_convI (k := .i64) (k' := .u64) (n := IntKind.wrap .i64 ((r28_0.n : Int) + 4)) ul_23 (tt := .int .i64) ul_3 rfl ?_
     obtain ⟨g29, H⟩ := H
     refine JO_iop (op := .rem) (k := .u64) (a := IntKind.wrap .u64 t8_) (b := IntKind.wrap .u64 (IntKind.wrap .i64 ((r28_0.n : Int) + 4))) rfl rfl g29 ?_
     refine JO_convI (k := .u64) (k' := .i64) (n := Int.tmod (IntKind.wrap .u64 t8_) (IntKind.wrap .u64 (IntKind.wrap .i64 ((r28_0.n : Int) + 4)))) ul_3 (tt := .int .u64) ul_23 rfl ?_
     refine JO_iop (op := .add) (k := .i64) (a := 4) (b := IntKind.wrap .i64 (Int.tmod (IntKind.wrap .u64 t8_) (IntKind.wrap .u64 (IntKind.wrap .i64 ((r28_0.n : Int) + 4))))) rfl rfl trivial ?_
     refine JO_assign (v := .int .i64 (IntKind.wrap .i64 (4 + (IntKind.wrap .i64 (Int.tmod (IntKind.wrap .u64 t8_) (IntKind.wrap .u64 (IntKind.wrap .i64 ((r28_0.n : Int) + 4)))))))) rfl ?_
     refine JO_nil ?_
     refine J_seq ?_
     refine J_seq ?_
     refine J_region (by decide) ?_
     refine JO_move (v := ptr t9_) h9 ?_
     refine JO_move (v := .string t73_25) rfl ?_
     refine JO_move (v := .int .i64 (IntKind.wrap .i64 (4 + (IntKind.wrap .i64 (Int.tmod (IntKind.wrap .u64 t8_) (IntKind.wrap .u64 (IntKind.wrap .i64 ((r28_0.n : Int) + 4)))))))) rfl ?_
     refine JO_move (v := .int .u8 t2_) h2 ?_
     refine JO_call Tryz.call18 (vs := [ptr t9_, .string t73_25, .int .i64 (IntKind.wrap .i64 (4 + (IntKind.wrap .i64 (Int.tmod (IntKind.wrap .u64 t8_) (IntKind.wrap .u64 (IntKind.wrap .i64 ((r28_0.n : Int) + 4))))))), .int .u8 t2_]) (mc rfl (mc rfl (mc rfl (mc rfl mn)))) ((hP.spec H).mono ?_ (fun ch Mp h => hX hD h))
     rintro v Mp ⟨M, hP, r30, rfl, H⟩
     refine JO_neqB (a := r30) (b := true) ul_4 rfl rfl ?_
     refine JO_nil ?_
     refine J_cond (t := r30 != true) rfl (fun hc_ => ?_) (fun hc_ => ?_)
     ·
      replace H := H.1 hc_
      clear hc_
      refine J_seq ?_
      refine J_region (by decide) ?_
      refine JO_assign (v := .bool false) rfl ?_
      refine JO_nil ?_
      exact J_ret (kret (pan := X)  hD (fun _ _ hb => hP.sub hb) (resOk (rs := [.tmp 6]) (vs := [.bool false]) rfl ⟨item_tmp rfl, trivial⟩) ⟨false, rfl, H⟩)
     ·
      replace H := H.2 hc_
      clear hc_
      refine J_skip ?_
      refine J_seq ?_
      refine J_seq ?_
      refine J_region (by decide) ?_
      refine JO_move (v := .int .u8 t2_) h2 ?_
      refine JO_iop (op := .eql) (k := .u8) (a := t2_) (b := 0) rfl rfl trivial ?_
      refine JO_nil ?_
      refine J_cond (t := t2_ == 0) rfl (fun hc_ => ?_) (fun hc_ => ?_)
      ·
       replace H := H.1 hc_
       clear hc_
       refine J_seq ?_
       refine J_region (by decide) ?_
       refine JO_move (v := ptr t10_) h10 ?_
       refine JO_call Tryz.call19 (vs := [ptr t10_]) (mc rfl mn) ((hP.spec H).mono ?_ (fun ch Mp h => hX hD h))
       rintro v Mp ⟨M, hP, r31, rfl, H⟩
       refine JO_move (v := Sl.v r15) rfl ?_
       refine JO_len (s := r15) is_36 rfl ?_
       refine JO_iop (op := .eql) (k := .i64) (a := r31) (b := (r15.n : Int)) rfl rfl trivial ?_
       refine JO_move (v := .bool (r31 == (r15.n : Int))) rfl ?_
       refine JO_cut 2 (F3_4 K X) ?_ ?_
       ·
        obtain ⟨H1, H2⟩ := H
        obtain hc_ | hc_ := ff_or_tt (r31 == (r15.n : Int))
        ·
         replace H := H2 hc_
         clear H1 H2
         have hg32 := (congrArg Value.bool hc_ : Value.bool (r31 == (r15.n : Int)) = Value.bool false)
         refine JO_off (s := 110) (c := false) hg32 (by decide) ?_
         refine JO_pick (b := false) (v := .bool false) hg32 rfl ?_
         refine JO_nil ?_
         exact (show F3_4 K X _ _ from ⟨false, _, hD, rfl, hP, H⟩)
        ·
         replace H := H1 hc_
         clear H1 H2
         have hg33 := (congrArg Value.bool hc_ : Value.bool (r31 == (r15.n : Int)) = Value.bool true)
         refine JO_on (s := 110) hg33 ?_
         refine JO_call Tryz.call15 (vs := []) mn ((hP.spec H).mono ?_ (fun ch Mp h => hX hD h))
         rintro v Mp ⟨M, hP, r34, rfl, H⟩
         refine JO_pick (b := true) (v := .bool r34) hg33 rfl ?_
         refine JO_nil ?_
         exact (show F3_4 K X _ _ from ⟨r34, _, hD, rfl, hP, H⟩)
       ·
        rintro e Mp ⟨t112_, M, hD, h112, hP, H⟩
        unfold S3_4 at H
        refine JO_assign (v := .bool t112_) h112 ?_
        refine JO_nil ?_
        exact J_ret (kret (pan := X)  hD (fun _ _ hb => hP.sub hb) (resOk (rs := [.tmp 6]) (vs := [.bool t112_]) rfl ⟨item_tmp rfl, trivial⟩) ⟨t112_, rfl, H⟩)
      ·
       replace H := H.2 hc_
       clear hc_
       refine J_skip ?_
       refine J_seq ?_
       refine J_region (by decide) ?_
       refine JO_move (v := ptr t9_) h9 ?_
       refine JO_call Tryz.call12 (vs := [ptr t9_, .int .i64 2]) (mc rfl (mc rfl mn)) ((hP.spec H).mono ?_ (fun ch Mp h => hX hD h))
       rintro v Mp ⟨M, hP, r35_0, r35_1, rfl, H⟩
       refine JO_move (v := .tuple #[ptr r35_0, .int .i64 r35_1]) rfl ?_
       refine JO_extract (vs := #[ptr r35_0, .int .i64 r35_1]) (v := ptr r35_0) rfl rfl ?_
       refine JO_extract (vs := #[ptr r35_0, .int .i64 r35_1]) (v := .int .i64 r35_1) rfl rfl ?_
       refine JO_assign (v := ptr r35_0) rfl ?_
       refine JO_assign (v := .int .i64 r35_1) rfl ?_
       refine JO_nil ?_
       refine J_seq ?_
       refine J_region (by decide) ?_
       refine JO_move (v := ptr r35_0) rfl ?_
       refine JO_move (v := Sl.v r28_0) rfl ?_
       refine JO_call Tryz.call20 (vs := [ptr r35_0, Sl.v r28_0]) (mc rfl (mc rfl mn)) ((hP.spec H).mono ?_ (fun ch Mp h => hX hD h))
       rintro v Mp ⟨M, hP, r36_0, r36_1, rfl, H⟩
       refine JO_move (v := .tuple #[Sl.v r36_0, .bool r36_1]) rfl ?_
       refine JO_extract (vs := #[Sl.v r36_0, .bool r36_1]) (v := Sl.v r36_0) rfl rfl ?_
       refine JO_extract (vs := #[Sl.v r36_0, .bool r36_1]) (v := .bool r36_1) rfl rfl ?_
       refine JO_assign (v := Sl.v r36_0) rfl ?_
       refine JO_assign (v := .bool r36_1) rfl ?_
       refine JO_nil ?_
       refine J_seq ?_
       refine J_region (by decide) ?_
       refine JO_move (v := .int .i64 r35_1) rfl ?_
       refine JO_iop (op := .eql) (k := .i64) (a := r35_1) (b := 0) rfl rfl trivial ?_
       refine JO_move (v := .bool (r35_1 == 0)) rfl ?_
       refine JO_cut 8 (F3_5 K X) ?_ ?_
       ·
        obtain ⟨H1, H2⟩ := H
        obtain hc_ | hc_ := ff_or_tt (r35_1 == 0)
        ·
         replace H := H2 hc_
         clear H1 H2
         have hg37 := (congrArg Value.bool hc_ : Value.bool (r35_1 == 0) = Value.bool false)
         refine JO_off (s := 126) (c := false) hg37 (by decide) ?_
         refine JO_off (s := 126) (c := false) hg37 (by decide) ?_
         refine JO_off (s := 126) (c := false) hg37 (by decide) ?_
         refine JO_off (s := 126) (c := false) hg37 (by decide) ?_
         refine JO_off (s := 126) (c := false) hg37 (by decide) ?_
         refine JO_off (s := 126) (c := false) hg37 (by decide) ?_
         refine JO_off (s := 126) (c := false) hg37 (by decide) ?_
         refine JO_pick (b := false) (v := .bool false) hg37 rfl ?_
         refine JO_nil ?_
         exact (show F3_5 K X _ _ from ⟨r36_1, false, _, hD, rfl, rfl, hP, H⟩)
        ·
         replace H := H1 hc_
         clear H1 H2
         have hg38 := (congrArg Value.bool hc_ : Value.bool (r35_1 == 0) = Value.bool true)
         refine JO_on (s := 126) hg38 ?_
         refine JO_move (v := ptr t9_) h9 ?_
         refine JO_on (s := 126) hg38 ?_
         refine JO_call Tryz.call14 (vs := [ptr t9_]) (mc rfl mn) ((hP.spec H).mono ?_ (fun ch Mp h => hX hD h))
         rintro v Mp ⟨M, hP, r39, rfl, H⟩
         refine JO_on (s := 126) hg38 ?_
         refine JO_len (s := r39) is_36 rfl ?_
         refine JO_on (s := 126) hg38 ?_
         refine JO_move (v := Sl.v r15) rfl ?_
         refine JO_on (s := 126) hg38 ?_
         refine JO_len (s := r15) is_36 rfl ?_
         refine JO_on (s := 126) hg38 ?_
         refine JO_iop (op := .sub) (k := .i64) (a := (r15.n : Int)) (b := 1) rfl rfl trivial ?_
         refine JO_on (s := 126) hg38 ?_
         refine JO_iop (op := .eql) (k := .i64) (a := (r39.n : Int)) (b := IntKind.wrap .i64 ((r15.n : Int) - 1)) rfl rfl trivial ?_
         refine JO_pick (b := true) (v := .bool ((r39.n : Int) == (IntKind.wrap .i64 ((r15.n : Int) - 1)))) hg38 rfl ?_
         refine JO_nil ?_
         exact (show F3_5 K X _ _ from ⟨r36_1, (r39.n : Int) == (IntKind.wrap .i64 ((r15.n : Int) - 1)), _, hD, rfl, rfl, hP, H⟩)
       ·
        rintro e Mp ⟨t24_, t134_, M, hD, h24, h134, hP, H⟩
        unfold S3_5 at H
        refine JO_move (v := .bool t134_) h134 ?_
        refine JO_cut 3 (F3_6 K X) ?_ ?_
        ·
         obtain ⟨H1, H2⟩ := H
         obtain hc_ | hc_ := ff_or_tt t134_
         ·
          replace H := H2 hc_
          clear H1 H2
          have hg40 := (congrArg Value.bool hc_ : Value.bool t134_ = Value.bool false)
          refine JO_off (s := 135) (c := false) hg40 (by decide) ?_
          refine JO_off (s := 135) (c := false) hg40 (by decide) ?_
          refine JO_pick (b := false) (v := .bool false) hg40 rfl ?_
          refine JO_nil ?_
          exact (show F3_6 K X _ _ from ⟨false, _, hD, rfl, hP, H⟩)
         ·
          replace H := H1 hc_
          clear H1 H2
          have hg41 := (congrArg Value.bool hc_ : Value.bool t134_ = Value.bool true)
          refine JO_on (s := 135) hg41 ?_
          refine JO_move (v := .bool t24_) h24 ?_
          refine JO_on (s := 135) hg41 ?_
          refine JO_not (b := t24_) rfl ?_
          refine JO_pick (b := true) (v := .bool (!t24_)) hg41 rfl ?_
          refine JO_nil ?_
          exact (show F3_6 K X _ _ from ⟨!t24_, _, hD, rfl, hP, H⟩)
        ·
         rintro e Mp ⟨t138_, M, hD, h138, hP, H⟩
         unfold S3_6 at H
         refine JO_move (v := .bool t138_) h138 ?_
         refine JO_cut 2 (F3_7 K X) ?_ ?_
         ·
          obtain ⟨H1, H2⟩ := H
          obtain hc_ | hc_ := ff_or_tt t138_
          ·
           replace H := H2 hc_
           clear H1 H2
           have hg42 := (congrArg Value.bool hc_ : Value.bool t138_ = Value.bool false)
           refine JO_off (s := 139) (c := false) hg42 (by decide) ?_
           refine JO_pick (b := false) (v := .bool false) hg42 rfl ?_
           refine JO_nil ?_
           exact (show F3_7 K X _ _ from ⟨false, _, hD, rfl, hP, H⟩)
          ·
           replace H := H1 hc_
           clear H1 H2
           have hg43 := (congrArg Value.bool hc_ : Value.bool t138_ = Value.bool true)
           refine JO_on (s := 139) hg43 ?_
           refine JO_call Tryz.call15 (vs := []) mn ((hP.spec H).mono ?_ (fun ch Mp h => hX hD h))
           rintro v Mp ⟨M, hP, r44, rfl, H⟩
           refine JO_pick (b := true) (v := .bool r44) hg43 rfl ?_
           refine JO_nil ?_
           exact (show F3_7 K X _ _ from ⟨r44, _, hD, rfl, hP, H⟩)
         ·
          rintro e Mp ⟨t141_, M, hD, h141, hP, H⟩
          unfold S3_7 at H
          refine JO_assign (v := .bool t141_) h141 ?_
          refine JO_nil ?_
          exact J_ret (kret (pan := X)  hD (fun _ _ hb => hP.sub hb) (resOk (rs := [.tmp 6]) (vs := [.bool t141_]) rfl ⟨item_tmp rfl, trivial⟩) ⟨t141_, rfl, H⟩)

/-! brazier/brazierlaw06.cut -/
def S10_3 (t3_ : Sl) (t8_ : Int) (t6_ : Sl) (t7_ : Int) (K : Sl → Mem → Prop) (X : List PanicEntry → Mem → Prop) (next2 : (Sl × Int) → Mem → Prop) : Mem → Prop :=
 next2 (t3_, IntKind.wrap .i64 (t8_ + 1))
def S10_5 (t3_ : Sl) (t8_ : Int) (t26_ : Bool) (b5_c0 : Int) (b5_c1 : Sl) (b5_c2 : Sl) (t6_ : Sl) (t7_ : Int) (K : Sl → Mem → Prop) (X : List PanicEntry → Mem → Prop) (next2 : (Sl × Int) → Mem → Prop) : Mem → Prop :=
 ite' t26_ (new (.cells #[.int .u64 b5_c0, Sl.v b5_c1, Sl.v b5_c2] 34 (0, 0)) fun b14 => appS 34 3 56 [.int .u64 0, Sl.v (⟨none, 0, 0⟩ : Sl), Sl.v (⟨none, 0, 0⟩ : Sl)] t3_ (⟨some (b14, 0), 1, 1⟩ : Sl) fun x15 => S10_3 x15 t8_ t6_ t7_ K X next2) (S10_3 t3_ t8_ t6_ t7_ K X next2)
def S10_4 (t3_ : Sl) (t8_ : Int) (t20_ : Bool) (b5_c0 : Int) (b5_c1 : Sl) (b5_c2 : Sl) (t6_ : Sl) (t7_ : Int) (K : Sl → Mem → Prop) (X : List PanicEntry → Mem → Prop) (next2 : (Sl × Int) → Mem → Prop) : Mem → Prop :=
 ite' t20_ (S10_5 t3_ t8_ (decide ((b5_c2.n : Int) ≤ 200)) b5_c0 b5_c1 b5_c2 t6_ t7_ K X next2) (S10_5 t3_ t8_ false b5_c0 b5_c1 b5_c2 t6_ t7_ K X next2)
def S10_1 (t3_ : Sl) (K : Sl → Mem → Prop) (X : List PanicEntry → Mem → Prop) : Mem → Prop :=
 K t3_
def S10_2b (t6_ : Sl) (t7_ : Int) (K : Sl → Mem → Prop) (X : List PanicEntry → Mem → Prop) (t3_ : Sl) (t8_ : Int) (next2 : (Sl × Int) → Mem → Prop) : Mem → Prop :=
 ite' (decide (t8_ < t7_)) (ix t6_ 3 t8_ fun p5 => ldI .u64 (p5.1, p5.2) fun t12_0 => ldL (p5.1, p5.2 + 1) fun t12_1 => ldL (p5.1, p5.2 + 2) fun t12_2 => ite' (decide (t8_ < 40)) (S10_4 t3_ t8_ (decide ((t12_1.n : Int) ≤ 200)) t12_0 t12_1 t12_2 t6_ t7_ K X next2) (S10_4 t3_ t8_ false t12_0 t12_1 t12_2 t6_ t7_ K X next2)) (S10_1 t3_ K X)
def S10_2 (t3_ : Sl) (t6_ : Sl) (t7_ : Int) (t8_ : Int) (K : Sl → Mem → Prop) (X : List PanicEntry → Mem → Prop) : Mem → Prop :=
 Lp (fun (s_ : (Sl × Int)) next2 => S10_2b t6_ t7_ K X s_.1 s_.2 next2) (t3_, t8_)
def S10 (t0 : Sl) (K : Sl → Mem → Prop) (X : List PanicEntry → Mem → Prop) : Mem → Prop :=
 S10_2 (⟨none, 0, 0⟩ : Sl) t0 (t0.n : Int) 0 K X
abbrev F10_5 (t6_ : Sl) (t7_ : Int) (K : Sl → Mem → Prop) (X : List PanicEntry → Mem → Prop) (next2 : (Sl × Int) → Mem → Prop) (e : Env) (Mp : Mem) : Prop := ∃ (t3_ : Sl) (b5_ : Nat) (t8_ : Int) (t26_ : Bool) (b5_c0 : Int) (b5_c1 : Sl) (b5_c2 : Sl) (M : Mem), e.D = [] ∧ e.v 3 = Sl.v t3_ ∧ e.v 5 = ptr (some (b5_, 0)) ∧ e.v 6 = Sl.v t6_ ∧ e.v 7 = .int .i64 t7_ ∧ e.v 8 = .int .i64 t8_ ∧ e.v 26 = .bool t26_ ∧ Pv M [(b5_, .cells #[.int .u64 b5_c0, Sl.v b5_c1, Sl.v b5_c2] 34 (0, 0))] Mp ∧ S10_5 t3_ t8_ t26_ b5_c0 b5_c1 b5_c2 t6_ t7_ K X next2 M
abbrev F10_4 (t6_ : Sl) (t7_ : Int) (K : Sl → Mem → Prop) (X : List PanicEntry → Mem → Prop) (next2 : (Sl × Int) → Mem → Prop) (e : Env) (Mp : Mem) : Prop := ∃ (t3_ : Sl) (b5_ : Nat) (t8_ : Int) (t20_ : Bool) (b5_c0 : Int) (b5_c1 : Sl) (b5_c2 : Sl) (M : Mem), e.D = [] ∧ e.v 3 = Sl.v t3_ ∧ e.v 5 = ptr (some (b5_, 0)) ∧ e.v 6 = Sl.v t6_ ∧ e.v 7 = .int .i64 t7_ ∧ e.v 8 = .int .i64 t8_ ∧ e.v 20 = .bool t20_ ∧ Pv M [(b5_, .cells #[.int .u64 b5_c0, Sl.v b5_c1, Sl.v b5_c2] 34 (0, 0))] Mp ∧ S10_4 t3_ t8_ t20_ b5_c0 b5_c1 b5_c2 t6_ t7_ K X next2 M
abbrev F10_3 (t6_ : Sl) (t7_ : Int) (K : Sl → Mem → Prop) (X : List PanicEntry → Mem → Prop) (next2 : (Sl × Int) → Mem → Prop) (e : Env) (Mp : Mem) : Prop := ∃ (t3_ : Sl) (t8_ : Int) (M : Mem), e.D = [] ∧ e.v 3 = Sl.v t3_ ∧ e.v 6 = Sl.v t6_ ∧ e.v 7 = .int .i64 t7_ ∧ e.v 8 = .int .i64 t8_ ∧ Pv M [] Mp ∧ S10_3 t3_ t8_ t6_ t7_ K X next2 M
abbrev F10_2 (K : Sl → Mem → Prop) (X : List PanicEntry → Mem → Prop) (e : Env) (Mp : Mem) : Prop := ∃ (t3_ : Sl) (t6_ : Sl) (t7_ : Int) (t8_ : Int) (M : Mem), e.D = [] ∧ e.v 3 = Sl.v t3_ ∧ e.v 6 = Sl.v t6_ ∧ e.v 7 = .int .i64 t7_ ∧ e.v 8 = .int .i64 t8_ ∧ Pv M [] Mp ∧ S10_2 t3_ t6_ t7_ t8_ K X M
abbrev F10_1 (K : Sl → Mem → Prop) (X : List PanicEntry → Mem → Prop) (e : Env) (Mp : Mem) : Prop := ∃ (t3_ : Sl) (M : Mem), e.D = [] ∧ e.v 3 = Sl.v t3_ ∧ Pv M [] Mp ∧ S10_1 t3_ K X M
theorem br10 {t0 : Sl} {K : Sl → Mem → Prop} {X : List PanicEntry → Mem → Prop} {M : Mem} (H : S10 t0 K X M) :
  Spec Tryz.prog 10 #[Sl.v t0] M (fun v_ M => ∃ (r0 : Sl), v_ = Sl.v r0 ∧ K r0 M) X := by
 refine spec_of_J (args := [Sl.v t0]) Tryz.func10 rfl Tryz.ntmps10 (Nat.le_of_ble_eq_true rfl) ?_
 have hD : (⟨fun i => ([Sl.v t0] : List Value).getD i undef, []⟩ : Env).D = [] := rfl
 have hP := Pv.nil M
 have hX := @kx_of Tryz.prog Tryz.f10 (fun v_ M => ∃ (r0 : Sl), v_ = Sl.v r0 ∧ K r0 M) X
 unfold S10 at H
 refine J_seq ?_
 refine J_region (by decide) ?_
 refine JO_assign (v := Sl.v (⟨none, 0, 0⟩ : Sl)) rfl ?_
 refine JO_nil ?_
 refine J_seq ?_
 refine J_region (by decide) ?_
 refine JO_assign (v := Sl.v (⟨none, 0, 0⟩ : Sl)) rfl ?_
 refine JO_nil ?_
 refine J_seq ?_
 refine J_seq ?_
 refine J_region (by decide) ?_
 refine JO_move (v := Sl.v t0) rfl ?_
 refine JO_len (s := t0) is_22 rfl ?_
 refine JO_move (v := .int .i64 0) rfl ?_
 refine JO_nil ?_
 refine J_blockF (F10_1 K X) ?_ ?_
 ·
  refine J_of (F10_2 K X) (show F10_2 K X _ _ from ⟨(⟨none, 0, 0⟩ : Sl), t0, (t0.n : Int), 0, _, hD, rfl, rfl, rfl, rfl, hP, H⟩) ?_
  rintro e Mp ⟨t3_, t6_, t7_, t8_, M, hD, h3, h6, h7, h8, hP, H⟩
  unfold S10_2 at H
  refine J_loopP (σ := (Sl × Int)) (body := fun (s_ : (Sl × Int)) next2 => S10_2b t6_ t7_ K X s_.1 s_.2 next2) (s := (t3_, t8_)) (M := M) (fun (s_ : (Sl × Int)) (e : Env) (M Mp : Mem) => e.D = [] ∧ e.v 3 = Sl.v s_.1 ∧ e.v 6 = Sl.v t6_ ∧ e.v 7 = .int .i64 t7_ ∧ e.v 8 = .int .i64 s_.2 ∧ Pv M [] Mp) ?_ ⟨hD, h3, h6, h7, h8, hP⟩ H
  rintro next2 ⟨t3_, t8_⟩ e M Mp ⟨hD, h3, h6, h7, h8, hP⟩ H
  replace H : S10_2b t6_ t7_ K X t3_ t8_ next2 M := H
  unfold S10_2b at H
  refine J_seq ?_
  refine J_region (by decide) ?_
  refine JO_iop (op := .lss) (k := .i64) (a := t8_) (b := t7_) h8 h7 trivial ?_
  refine JO_nil ?_
  refine J_seq ?_
  refine J_cond (t := decide (t8_ < t7_)) rfl (fun hc_ => ?_) (fun hc_ => ?_)
  ·
   replace H := H.1 hc_
   clear hc_
   refine J_skip ?_
   refine J_seq ?_
   refine J_blockF (F10_3 t6_ t7_ K X next2) ?_ ?_
   ·
    refine J_seq ?_
    refine J_region (by decide) ?_
    refine JO_move (v := .int .i64 t8_) h8 ?_
    obtain ⟨a1, g2, g3, g4, H⟩ := H
    refine JO_indexAddr (s := t6_) (p := a1) (i := t8_) es_22 h6 h8 g2 g3 g4 ?_
    obtain ⟨p5, hq_⟩ : ∃ q : PA, q = (a1.1, a1.2 + (t8_ : Int).toNat * 3) := ⟨_, rfl⟩; rw [← hq_] at H ⊢; clear hq_
    obtain ⟨t12_0, g6, H⟩ := H
    obtain ⟨t12_1, g7, H⟩ := H
    obtain ⟨t12_2, g8, H⟩ := H
    refine JO_loadAgg (p := p5) (cs := [.int .u64 t12_0, Sl.v t12_1, Sl.v t12_2]) ag_34 (Nat.succ_pos _) rfl (cels_of (b := p5.1) (o := p5.2) ⟨hP.cel g6, hP.cel g7, hP.cel g8, trivial⟩) ?_
    refine JO_alloc (cs := [.int .u64 0, Sl.v (⟨none, 0, 0⟩ : Sl), Sl.v (⟨none, 0, 0⟩ : Sl)]) zc_34 ?_
    intro b9 hb
    replace hP : Pv _ [(b9, .cells #[.int .u64 0, Sl.v (⟨none, 0, 0⟩ : Sl), Sl.v (⟨none, 0, 0⟩ : Sl)] 34 (0, 0))] _ := hP.box hb _
    refine JO_assign (v := .int .i64 t8_) rfl ?_
    refine JO_storeAgg (p := (b9, 0)) (cs := [.int .u64 t12_0, Sl.v t12_1, Sl.v t12_2]) sz_34 rfl rfl (all_cons rfl (all_cons rfl (all_cons rfl all_nil))) (fun j hj => wrOf (hP.get 0 rfl) (by simp at hj ⊢; omega) (by simp)) ?_
    replace hP : Pv _ [(b9, .cells #[.int .u64 t12_0, Sl.v t12_1, Sl.v t12_2] 34 (0, 0))] _ := Pv.stosL (i := 0) [.int .u64 t12_0, Sl.v t12_1, Sl.v t12_2] [.int .u64 0, Sl.v (⟨none, 0, 0⟩ : Sl), Sl.v (⟨none, 0, 0⟩ : Sl)] 0 _ _ hP rfl
    refine JO_nil ?_
    refine J_seq ?_
    refine J_region (by decide) ?_
    refine JO_move (v := .int .i64 t8_) rfl ?_
    refine JO_iop (op := .lss) (k := .i64) (a := t8_) (b := 40) rfl rfl trivial ?_
    refine JO_move (v := .bool (decide (t8_ < 40))) rfl ?_
    refine JO_cut 5 (F10_4 t6_ t7_ K X next2) ?_ ?_
    ·
     obtain ⟨H1, H2⟩ := H
     obtain hc_ | hc_ := ff_or_tt (decide (t8_ < 40))
     ·
      replace H := H2 hc_
      clear H1 H2
      have hg10 := (congrArg Value.bool hc_ : Value.bool (decide (t8_ < 40)) = Value.bool false)
      refine JO_off (s := 15) (c := false) hg10 (by decide) ?_
      refine JO_off (s := 15) (c := false) hg10 (by decide) ?_
      refine JO_off (s := 15) (c := false) hg10 (by decide) ?_
      refine JO_off (s := 15) (c := false) hg10 (by decide) ?_
      refine JO_pick (b := false) (v := .bool false) hg10 rfl ?_
      refine JO_nil ?_
      exact (show F10_4 t6_ t7_ K X next2 _ _ from ⟨t3_, b9, t8_, false, t12_0, t12_1, t12_2, _, hD, h3, rfl, h6, h7, h8, rfl, hP, H⟩)
     ·
      replace H := H1 hc_
      clear H1 H2
      have hg11 := (congrArg Value.bool hc_ : Value.bool (decide (t8_ < 40)) = Value.bool true)
      refine JO_on (s := 15) hg11 ?_
      refine JO_fieldAddr (p := (b9, 0)) fo_34_1 rfl ?_
      refine JO_on (s := 15) hg11 ?_
      refine JO_load (p := (b9, 1)) (v := Sl.v t12_1) na_32 rfl (celOf (hP.get 0 rfl) rfl) ?_
      refine JO_on (s := 15) hg11 ?_
      refine JO_len (s := t12_1) is_32 rfl ?_
      refine JO_on (s := 15) hg11 ?_
      refine JO_iop (op := .leq) (k := .i64) (a := (t12_1.n : Int)) (b := 200) rfl rfl trivial ?_
      refine JO_pick (b := true) (v := .bool (decide ((t12_1.n : Int) ≤ 200))) hg11 rfl ?_
      refine JO_nil ?_
      exact (show F10_4 t6_ t7_ K X next2 _ _ from ⟨t3_, b9, t8_, decide ((t12_1.n : Int) ≤ 200), t12_0, t12_1, t12_2, _, hD, h3, rfl, h6, h7, h8, rfl, hP, H⟩)
    ·
     rintro e Mp ⟨t3_, b5_, t8_, t20_, b5_c0, b5_c1, b5_c2, M, hD, h3, h5, h6, h7, h8, h20, hP, H⟩
     unfold S10_4 at H
     refine JO_move (v := .bool t20_) h20 ?_
     refine JO_cut 5 (F10_5 t6_ t7_ K X next2) ?_ ?_
     ·
      obtain ⟨H1, H2⟩ := H
      obtain hc_ | hc_ := ff_or_tt t20_
      ·
       replace H := H2 hc_
       clear H1 H2
       have hg12 := (congrArg Value.bool hc_ : Value.bool t20_ = Value.bool false)
       refine JO_off (s := 21) (c := false) hg12 (by decide) ?_
       refine JO_off (s := 21) (c := false) hg12 (by decide) ?_
       refine JO_off (s := 21) (c := false) hg12 (by decide) ?_
       refine JO_off (s := 21) (c := false) hg12 (by decide) ?_
       refine JO_pick (b := false) (v := .bool false) hg12 rfl ?_
       refine JO_nil ?_
       exact (show F10_5 t6_ t7_ K X next2 _ _ from ⟨t3_, b5_, t8_, false, b5_c0, b5_c1, b5_c2, _, hD, h3, h5, h6, h7, h8, rfl, hP, H⟩)
      ·
       replace H := H1 hc_
       clear H1 H2
       have hg13 := (congrArg Value.bool hc_ : Value.bool t20_ = Value.bool true)
       refine JO_on (s := 21) hg13 ?_
       refine JO_fieldAddr (p := (b5_, 0)) fo_34_2 h5 ?_
       refine JO_on (s := 21) hg13 ?_
       refine JO_load (p := (b5_, 2)) (v := Sl.v b5_c2) na_32 rfl (celOf (hP.get 0 rfl) rfl) ?_
       refine JO_on (s := 21) hg13 ?_
       refine JO_len (s := b5_c2) is_32 rfl ?_
       refine JO_on (s := 21) hg13 ?_
       refine JO_iop (op := .leq) (k := .i64) (a := (b5_c2.n : Int)) (b := 200) rfl rfl trivial ?_
       refine JO_pick (b := true) (v := .bool (decide ((b5_c2.n : Int) ≤ 200))) hg13 rfl ?_
       refine JO_nil ?_
       exact (show F10_5 t6_ t7_ K X next2 _ _ from ⟨t3_, b5_, t8_, decide ((b5_c2.n : Int) ≤ 200), b5_c0, b5_c1, b5_c2, _, hD, h3, h5, h6, h7, h8, rfl, hP, H⟩)
     ·
      rintro e Mp ⟨t3_, b5_, t8_, t26_, b5_c0, b5_c1, b5_c2, M, hD, h3, h5, h6, h7, h8, h26, hP, H⟩
      unfold S10_5 at H
      refine JO_nil ?_
      refine J_cond (t := t26_) h26 (fun hc_ => ?_) (fun hc_ => ?_)
      ·
       replace H := H.1 hc_
       clear hc_
       refine J_region (by decide) ?_
       refine JO_move (v := Sl.v t3_) h3 ?_
       refine JO_loadAgg (p := (b5_, 0)) (cs := [.int .u64 b5_c0, Sl.v b5_c1, Sl.v b5_c2]) ag_34 (Nat.succ_pos _) h5 (cels_of (b := b5_) (o := 0) ⟨celOf (hP.get 0 rfl) rfl, celOf (hP.get 0 rfl) rfl, celOf (hP.get 0 rfl) rfl, trivial⟩) ?_
       refine JO_bsl (vs := [(0, .agg #[.int .u64 b5_c0, Sl.v b5_c1, Sl.v b5_c2])]) (cs := [.int .u64 b5_c0, Sl.v b5_c1, Sl.v b5_c2]) (c0 := [.int .u64 0, Sl.v (⟨none, 0, 0⟩ : Sl), Sl.v (⟨none, 0, 0⟩ : Sl)]) ul_22 sz_34 zc_34 (by kernel_rfl) (by decide) (by decide) (mpc rfl mpn) rfl ?_
       intro b14 hb
       replace H := H b14 (hP.out hb).1
       replace hP := hP.new hb (.cells #[.int .u64 b5_c0, Sl.v b5_c1, Sl.v b5_c2] 34 (0, 0))
       refine JO_loud ((hP.opJ (OpJ_app (s := t3_) (z := (⟨some (b14, 0), 1, 1⟩ : Sl)) ul_22 sb_34 zc_34 rfl rfl H)).mono (fun _ _ h => h) (fun _ _ ⟨_, _, f⟩ => f.elim)) ?_
       rintro _ Mp ⟨M, hP, x15, rfl, H⟩
       refine JO_assign (v := Sl.v x15) rfl ?_
       refine JO_nil ?_
       exact (show F10_3 t6_ t7_ K X next2 _ _ from ⟨x15, t8_, _, hD, rfl, h6, h7, h8, (hP.drop 0), H⟩)
      ·
       replace H := H.2 hc_
       clear hc_
       refine J_skip ?_
       exact (show F10_3 t6_ t7_ K X next2 _ _ from ⟨t3_, t8_, _, hD, h3, h6, h7, h8, (hP.drop 0), H⟩)
   ·
    rintro e Mp ⟨t3_, t8_, M, hD, h3, h6, h7, h8, hP, H⟩
    unfold S10_3 at H
    refine J_region (by decide) ?_
    refine JO_iop (op := .add) (k := .i64) (a := t8_) (b := 1) h8 rfl trivial ?_
    refine JO_move (v := .int .i64 (IntKind.wrap .i64 (t8_ + 1))) rfl ?_
    refine JO_nil ?_
    exact ⟨(t3_, IntKind.wrap .i64 (t8_ + 1)), _, ⟨hD, h3, h6, h7, rfl, hP⟩, H⟩
  ·
   replace H := H.2 hc_
   clear hc_
   refine J_exit ?_
   exact (show F10_1 K X _ _ from ⟨t3_, _, hD, h3, hP, H⟩)
 ·
  rintro e Mp ⟨t3_, M, hD, h3, hP, H⟩
  unfold S10_1 at H
  refine J_seq ?_
  refine J_region (by decide) ?_
  refine JO_move (v := Sl.v t3_) h3 ?_
  refine JO_assign (v := Sl.v t3_) rfl ?_
  refine JO_nil ?_
  exact J_ret (kret (pan := X)  hD (fun _ _ hb => hP.sub hb) (resOk (rs := [.tmp 2]) (vs := [Sl.v t3_]) rfl ⟨item_tmp rfl, trivial⟩) ⟨t3_, rfl, H⟩)

/-! (*brazier/disk.Disk).Turn -/
def S18_2 (t2_ : Int) (t3_ : Int) (t9_ : Option PA) (t31_ : Bool) (K : Bool → Mem → Prop) (X : List PanicEntry → Mem → Prop) : Mem → Prop :=
 ite' t31_ (K false) (nn t9_ fun a10 => ldL a10 fun t36_12 => call 64 [Sl.v t36_12] X fun v_ M => ∃ (r14 : Sl), v_ = Sl.v r14 ∧ ( st a10 (Sl.v r14) <| ldL a10 fun t43_16 => ix t43_16 1 t2_ fun p22 => ldI .u8 p22 fun t46_23 => ix t43_16 1 t2_ fun p29 => st p29 (.int .u8 (ixor .u8 t46_23 t3_)) <| K true) M)
def S18_1 (t2_ : Int) (t3_ : Int) (t9_ : Option PA) (t22_ : Bool) (K : Bool → Mem → Prop) (X : List PanicEntry → Mem → Prop) : Mem → Prop :=
 ite' t22_ (S18_2 t2_ t3_ t9_ true K X) (nn t9_ fun a5 => ldL a5 fun t28_7 => S18_2 t2_ t3_ t9_ (decide (t2_ ≥ (t28_7.n : Int))) K X)
def S18 (t0 : Option PA) (t1 : ByteArray) (t2 : Int) (t3 : Int) (K : Bool → Mem → Prop) (X : List PanicEntry → Mem → Prop) : Mem → Prop :=
 call 63 [ptr t0, .string t1] X fun v_ M => ∃ (r1_0 : Option PA) (r1_1 : Bool), v_ = .tuple #[ptr r1_0, .bool r1_1] ∧ ( ite' (!r1_1) (S18_1 t2 t3 r1_0 true K X) (S18_1 t2 t3 r1_0 (decide (t2 < 0)) K X)) M
abbrev F18_2 (K : Bool → Mem → Prop) (X : List PanicEntry → Mem → Prop) (e : Env) (Mp : Mem) : Prop := ∃ (t2_ : Int) (t3_ : Int) (t9_ : Option PA) (t31_ : Bool) (M : Mem), e.D = [] ∧ e.v 2 = .int .i64 t2_ ∧ e.v 3 = .int .u8 t3_ ∧ e.v 9 = ptr t9_ ∧ e.v 31 = .bool t31_ ∧ Pv M [] Mp ∧ S18_2 t2_ t3_ t9_ t31_ K X M
abbrev F18_1 (K : Bool → Mem → Prop) (X : List PanicEntry → Mem → Prop) (e : Env) (Mp : Mem) : Prop := ∃ (t2_ : Int) (t3_ : Int) (t9_ : Option PA) (t22_ : Bool) (M : Mem), e.D = [] ∧ e.v 2 = .int .i64 t2_ ∧ e.v 3 = .int .u8 t3_ ∧ e.v 9 = ptr t9_ ∧ e.v 22 = .bool t22_ ∧ Pv M [] Mp ∧ S18_1 t2_ t3_ t9_ t22_ K X M
theorem br18 {t0 : Option PA} {t1 : ByteArray} {t2 : Int} {t3 : Int} {K : Bool → Mem → Prop} {X : List PanicEntry → Mem → Prop} {M : Mem} (H : S18 t0 t1 t2 t3 K X M) :
  Spec Tryz.prog 18 #[ptr t0, .string t1, .int .i64 t2, .int .u8 t3] M (fun v_ M => ∃ (r0 : Bool), v_ = .bool r0 ∧ K r0 M) X := by
 refine spec_of_J (args := [ptr t0, .string t1, .int .i64 t2, .int .u8 t3]) Tryz.func18 rfl Tryz.ntmps18 (Nat.le_of_ble_eq_true rfl) ?_
 have hD : (⟨fun i => ([ptr t0, .string t1, .int .i64 t2, .int .u8 t3] : List Value).getD i undef, []⟩ : Env).D = [] := rfl
 have hP := Pv.nil M
 have hX := @kx_of Tryz.prog Tryz.f18 (fun v_ M => ∃ (r0 : Bool), v_ = .bool r0 ∧ K r0 M) X
 unfold S18 at H
 refine J_seq ?_
 refine J_region (by decide) ?_
 refine JO_assign (v := .bool false) rfl ?_
 refine JO_nil ?_
 refine J_seq ?_
 refine J_region (by decide) ?_
 refine JO_move (v := ptr t0) rfl ?_
 refine JO_move (v := .string t1) rfl ?_
 refine JO_call Tryz.call63 (vs := [ptr t0, .string t1]) (mc rfl (mc rfl mn)) ((hP.spec H).mono ?_ (fun ch Mp h => hX hD h))
 rintro v Mp ⟨M, hP, r1_0, r1_1, rfl, H⟩
 refine JO_move (v := .tuple #[ptr r1_0, .bool r1_1]) rfl ?_
 refine JO_extract (vs := #[ptr r1_0, .bool r1_1]) (v := ptr r1_0) rfl rfl ?_
 refine JO_extract (vs := #[ptr r1_0, .bool r1_1]) (v := .bool r1_1) rfl rfl ?_
 refine JO_assign (v := ptr r1_0) rfl ?_
 refine JO_assign (v := .bool r1_1) rfl ?_
 refine JO_nil ?_
 refine J_seq ?_
 refine J_seq ?_
 refine J_region (by decide) ?_
 refine JO_move (v := .bool r1_1) rfl ?_
 refine JO_not (b := r1_1) rfl ?_
 refine JO_move (v := .bool (!r1_1)) rfl ?_
 refine JO_cut 3 (F18_1 K X) ?_ ?_
 ·
  obtain ⟨H1, H2⟩ := H
  obtain hc_ | hc_ := ff_or_tt (!r1_1)
  ·
   replace H := H2 hc_
   clear H1 H2
   have hg2 := (congrArg Value.bool hc_ : Value.bool (!r1_1) = Value.bool false)
   refine JO_on (s := 19) hg2 ?_
   refine JO_move (v := .int .i64 t2) rfl ?_
   refine JO_on (s := 19) hg2 ?_
   refine JO_iop (op := .lss) (k := .i64) (a := t2) (b := 0) rfl rfl trivial ?_
   refine JO_pick (b := false) (v := .bool (decide (t2 < 0))) hg2 rfl ?_
   refine JO_nil ?_
   exact (show F18_1 K X _ _ from ⟨t2, t3, r1_0, decide (t2 < 0), _, hD, rfl, rfl, rfl, rfl, hP, H⟩)
  ·
   replace H := H1 hc_
   clear H1 H2
   have hg3 := (congrArg Value.bool hc_ : Value.bool (!r1_1) = Value.bool true)
   refine JO_off (s := 19) (c := true) hg3 (by decide) ?_
   refine JO_off (s := 19) (c := true) hg3 (by decide) ?_
   refine JO_pick (b := true) (v := .bool true) hg3 rfl ?_
   refine JO_nil ?_
   exact (show F18_1 K X _ _ from ⟨t2, t3, r1_0, true, _, hD, rfl, rfl, rfl, rfl, hP, H⟩)
 ·
  rintro e Mp ⟨t2_, t3_, t9_, t22_, M, hD, h2, h3, h9, h22, hP, H⟩
  unfold S18_1 at H
  refine JO_move (v := .bool t22_) h22 ?_
  refine JO_cut 8 (F18_2 K X) ?_ ?_
  ·
   obtain ⟨H1, H2⟩ := H
   obtain hc_ | hc_ := ff_or_tt t22_
   ·
    replace H := H2 hc_
    clear H1 H2
    have hg4 := (congrArg Value.bool hc_ : Value.bool t22_ = Value.bool false)
    refine JO_on (s := 23) hg4 ?_
    refine JO_move (v := .int .i64 t2_) h2 ?_
    refine JO_on (s := 23) hg4 ?_
    refine JO_move (v := ptr t9_) h9 ?_
    refine JO_on (s := 23) hg4 ?_
    obtain ⟨a5, g6, H⟩ := H
    refine JO_nilCheck (p := a5) (tr1 (rfl : _ = ptr t9_) (congrArg ptr g6)) ?_
    refine JO_on (s := 23) hg4 ?_
    refine JO_fieldAddr (p := a5) fo_135_0 rfl ?_
    refine JO_on (s := 23) hg4 ?_
    obtain ⟨t28_7, g8, H⟩ := H
    refine JO_load (p := a5) (v := Sl.v t28_7) na_32 rfl (hP.cel g8) ?_
    refine JO_on (s := 23) hg4 ?_
    refine JO_len (s := t28_7) is_32 rfl ?_
    refine JO_on (s := 23) hg4 ?_
    refine JO_iop (op := .geq) (k := .i64) (a := t2_) (b := (t28_7.n : Int)) rfl rfl trivial ?_
    refine JO_pick (b := false) (v := .bool (decide (t2_ ≥ (t28_7.n : Int)))) hg4 rfl ?_
    refine JO_nil ?_
    exact (show F18_2 K X _ _ from ⟨t2_, t3_, t9_, decide (t2_ ≥ (t28_7.n : Int)), _, hD, h2, h3, h9, rfl, hP, H⟩)
   ·
    replace H := H1 hc_
    clear H1 H2
    have hg9 := (congrArg Value.bool hc_ : Value.bool t22_ = Value.bool true)
    refine JO_off (s := 23) (c := true) hg9 (by decide) ?_
    refine JO_off (s := 23) (c := true) hg9 (by decide) ?_
    refine JO_off (s := 23) (c := true) hg9 (by decide) ?_
    refine JO_off (s := 23) (c := true) hg9 (by decide) ?_
    refine JO_off (s := 23) (c := true) hg9 (by decide) ?_
    refine JO_off (s := 23) (c := true) hg9 (by decide) ?_
    refine JO_off (s := 23) (c := true) hg9 (by decide) ?_
    refine JO_pick (b := true) (v := .bool true) hg9 rfl ?_
    refine JO_nil ?_
    exact (show F18_2 K X _ _ from ⟨t2_, t3_, t9_, true, _, hD, h2, h3, h9, rfl, hP, H⟩)
  ·
   rintro e Mp ⟨t2_, t3_, t9_, t31_, M, hD, h2, h3, h9, h31, hP, H⟩
   unfold S18_2 at H
   refine JO_nil ?_
   refine J_cond (t := t31_) h31 (fun hc_ => ?_) (fun hc_ => ?_)
   ·
    replace H := H.1 hc_
    clear hc_
    refine J_seq ?_
    refine J_region (by decide) ?_
    refine JO_assign (v := .bool false) rfl ?_
    refine JO_nil ?_
    exact J_ret (kret (pan := X)  hD (fun _ _ hb => hP.sub hb) (resOk (rs := [.tmp 8]) (vs := [.bool false]) rfl ⟨item_tmp rfl, trivial⟩) ⟨false, rfl, H⟩)
   ·
    replace H := H.2 hc_
    clear hc_
    refine J_skip ?_
    refine J_seq ?_
    refine J_region (by decide) ?_
    refine JO_move (v := ptr t9_) h9 ?_
    refine JO_move (v := ptr t9_) h9 ?_
    obtain ⟨a10, g11, H⟩ := H
    refine JO_nilCheck (p := a10) (tr1 (rfl : _ = ptr t9_) (congrArg ptr g11)) ?_
    refine JO_fieldAddr (p := a10) fo_135_0 rfl ?_
    obtain ⟨t36_12, g13, H⟩ := H
    refine JO_load (p := a10) (v := Sl.v t36_12) na_32 rfl (hP.cel g13) ?_
    refine JO_call Tryz.call64 (vs := [Sl.v t36_12]) (mc rfl mn) ((hP.spec H).mono ?_ (fun ch Mp h => hX hD h))
    rintro v Mp ⟨M, hP, r14, rfl, H⟩
    refine JO_nilCheck (p := a10) (tr1 (rfl : _ = ptr t9_) (congrArg ptr g11)) ?_
    refine JO_fieldAddr (p := a10) fo_135_0 rfl ?_
    obtain ⟨g15, H⟩ := H
    refine JO_store (p := a10) (v := Sl.v r14) sz_32 rfl rfl rfl (hP.wr g15) ?_
    replace hP := hP.sto g15 (Sl.v r14)
    refine JO_nil ?_
    refine J_seq ?_
    refine J_region (by decide) ?_
    refine JO_move (v := ptr t9_) h9 ?_
    refine JO_nilCheck (p := a10) (tr1 (rfl : _ = ptr t9_) (congrArg ptr g11)) ?_
    refine JO_fieldAddr (p := a10) fo_135_0 rfl ?_
    obtain ⟨t43_16, g17, H⟩ := H
    refine JO_load (p := a10) (v := Sl.v t43_16) na_32 rfl (hP.cel g17) ?_
    refine JO_move (v := .int .i64 t2_) h2 ?_
    obtain ⟨a18, g19, g20, g21, H⟩ := H
    refine JO_indexAddr (s := t43_16) (p := a18) (i := t2_) es_32 rfl rfl g19 g20 g21 ?_
    obtain ⟨p22, hq_⟩ : ∃ q : PA, q = (a18.1, a18.2 + (t2_ : Int).toNat * 1) := ⟨_, rfl⟩; rw [← hq_] at H ⊢; clear hq_
    obtain ⟨t46_23, g24, H⟩ := H
    refine JO_load (p := p22) (v := .int .u8 t46_23) na_5 rfl (hP.cel g24) ?_
    refine JO_move (v := .int .u8 t3_) h3 ?_
    refine JO_iop (op := .xor) (k := .u8) (a := t46_23) (b := t3_) rfl rfl trivial ?_
    obtain ⟨a25, g26, g27, g28, H⟩ := H
    refine JO_indexAddr (s := t43_16) (p := a25) (i := t2_) es_32 rfl rfl g26 g27 g28 ?_
    obtain ⟨p29, hq_⟩ : ∃ q : PA, q = (a25.1, a25.2 + (t2_ : Int).toNat * 1) := ⟨_, rfl⟩; rw [← hq_] at H ⊢; clear hq_
    obtain ⟨g30, H⟩ := H
    refine JO_store (p := p29) (v := .int .u8 (ixor .u8 t46_23 t3_)) sz_5 rfl rfl rfl (hP.wr g30) ?_
    replace hP := hP.sto g30 (.int .u8 (ixor .u8 t46_23 t3_))
    refine JO_nil ?_
    refine J_seq ?_
    refine J_region (by decide) ?_
    refine JO_assign (v := .bool true) rfl ?_
    refine JO_nil ?_
    exact J_ret (kret (pan := X)  hD (fun _ _ hb => hP.sub hb) (resOk (rs := [.tmp 8]) (vs := [.bool true]) rfl ⟨item_tmp rfl, trivial⟩) ⟨true, rfl, H⟩)

end Go.Proofs.YtdndpmlapcbjaaaGreat

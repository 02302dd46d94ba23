/- Printed by gen.py of this repo. -/
import Derived.Test.YtdndpmlapcbjaaaGreatTB
namespace Go.Proofs.YtdndpmlapcbjaaaGreat
open Go Go.RowKit
set_option linter.unusedVariables false
set_option maxRecDepth 100000

/-! (*brazier/cas.Store).Put -/
def S13 (t0 : Option PA) (t1 : Sl) (t2 : Sl) (K : Int → Mem → Prop) (X : List PanicEntry → Mem → Prop) : Mem → Prop :=
 ite' t0.isNone (K 5) (call 59 [Sl.v t1, Sl.v t2] X fun v_ M => ∃ (r1_0 : Sl) (r1_1 : Int), v_ = .tuple #[Sl.v r1_0, .int .i64 r1_1] ∧ ( ite' (r1_1 != 0) (K r1_1) (nn t0 fun a2 => ldP a2 fun t26_4 => call 53 [ptr t26_4] X fun v_ M => ∃ (r6 : Bool), v_ = .bool r6 ∧ ( ite' r6 (K 5) (call 60 [ptr t0, Sl.v t1] X fun v_ M => ∃ (r7_0_0 : ByteArray) (r7_0_1 : Bool) (r7_0_2 : Bool) (r7_0_3 : Sl) (r7_0_4 : Sl) (r7_1 : Bool), v_ = .tuple #[.agg #[.string r7_0_0, .bool r7_0_1, .bool r7_0_2, Sl.v r7_0_3, Sl.v r7_0_4], .bool r7_1] ∧ ( ite' r7_1 (K 0) (call 61 [ptr t0, Sl.v t1] X fun v_ M => ∃ (r9 : ByteArray), v_ = .string r9 ∧ ( ite' (seq r9 (⟨#[]⟩ : ByteArray)) (K 2) (call 62 [ptr t0, .string r9, Sl.v r1_0] X fun v_ M => ∃ (r10 : Int), v_ = .int .i64 r10 ∧ ( K r10) M)) M)) M)) M)) M)
theorem br13 {t0 : Option PA} {t1 : Sl} {t2 : Sl} {K : Int → Mem → Prop} {X : List PanicEntry → Mem → Prop} {M : Mem} (H : S13 t0 t1 t2 K X M) :
  Spec Tryz.prog 13 #[ptr t0, Sl.v t1, Sl.v t2] M (fun v_ M => ∃ (r0 : Int), v_ = .int .i64 r0 ∧ K r0 M) X := by
 refine spec_of_J (args := [ptr t0, Sl.v t1, Sl.v t2]) Tryz.func13 rfl Tryz.ntmps13 (Nat.le_of_ble_eq_true rfl) ?_
 have hD : (⟨fun i => ([ptr t0, Sl.v t1, Sl.v t2] : List Value).getD i undef, []⟩ : Env).D = [] := rfl
 have hP := Pv.nil M
 have hX := @kx_of Tryz.prog Tryz.f13 (fun v_ M => ∃ (r0 : Int), v_ = .int .i64 r0 ∧ K r0 M) X
 unfold S13 at H
 refine J_seq ?_
 refine J_region (by decide) ?_
 refine JO_assign (v := .int .i64 0) rfl ?_
 refine JO_nil ?_
 refine J_seq ?_
 refine J_seq ?_
 refine J_region (by decide) ?_
 refine JO_move (v := ptr t0) rfl ?_
 refine JO_eqlNil (p := t0) ip_28 rfl rfl ?_
 refine JO_nil ?_
 refine J_cond (t := t0.isNone) rfl (fun hc_ => ?_) (fun hc_ => ?_)
 ·
  replace H := H.1 hc_
  clear hc_
  refine J_seq ?_
  refine J_region (by decide) ?_
  refine JO_assign (v := .int .i64 5) rfl ?_
  refine JO_nil ?_
  exact J_ret (kret (pan := X)  hD (fun _ _ hb => hP.sub hb) (resOk (rs := [.tmp 6]) (vs := [.int .i64 5]) rfl ⟨item_tmp rfl, trivial⟩) ⟨5, rfl, H⟩)
 ·
  replace H := H.2 hc_
  clear hc_
  refine J_skip ?_
  refine J_seq ?_
  refine J_region (by decide) ?_
  refine JO_move (v := Sl.v t1) rfl ?_
  refine JO_move (v := Sl.v t2) rfl ?_
  refine JO_call Tryz.call59 (vs := [Sl.v t1, Sl.v t2]) (mc rfl (mc rfl mn)) ((hP.spec H).mono ?_ (fun ch Mp h => hX hD h))
  rintro v Mp ⟨M, hP, r1_0, r1_1, rfl, H⟩
  refine JO_move (v := .tuple #[Sl.v r1_0, .int .i64 r1_1]) rfl ?_
  refine JO_extract (vs := #[Sl.v r1_0, .int .i64 r1_1]) (v := Sl.v r1_0) rfl rfl ?_
  refine JO_extract (vs := #[Sl.v r1_0, .int .i64 r1_1]) (v := .int .i64 r1_1) rfl rfl ?_
  refine JO_assign (v := Sl.v r1_0) rfl ?_
  refine JO_assign (v := .int .i64 r1_1) rfl ?_
  refine JO_nil ?_
  refine J_seq ?_
  refine J_seq ?_
  refine J_region (by decide) ?_
  refine JO_move (v := .int .i64 r1_1) rfl ?_
  refine JO_iop (op := .neq) (k := .i64) (a := r1_1) (b := 0) rfl rfl trivial ?_
  refine JO_nil ?_
  refine J_cond (t := r1_1 != 0) rfl (fun hc_ => ?_) (fun hc_ => ?_)
  ·
   replace H := H.1 hc_
   clear hc_
   refine J_seq ?_
   refine J_region (by decide) ?_
   refine JO_move (v := .int .i64 r1_1) rfl ?_
   refine JO_assign (v := .int .i64 r1_1) rfl ?_
   refine JO_nil ?_
   exact J_ret (kret (pan := X)  hD (fun _ _ hb => hP.sub hb) (resOk (rs := [.tmp 6]) (vs := [.int .i64 r1_1]) rfl ⟨item_tmp rfl, trivial⟩) ⟨r1_1, rfl, H⟩)
  ·
   replace H := H.2 hc_
   clear hc_
   refine J_skip ?_
   refine J_seq ?_
   refine J_seq ?_
   refine J_region (by decide) ?_
   refine JO_move (v := ptr t0) rfl ?_
   obtain ⟨a2, g3, H⟩ := H
   refine JO_nilCheck (p := a2) (tr1 (rfl : _ = ptr t0) (congrArg ptr g3)) ?_
   refine JO_fieldAddr (p := a2) fo_117_0 rfl ?_
   obtain ⟨t26_4, g5, H⟩ := H
   refine JO_load (p := a2) (v := ptr t26_4) na_26 rfl (hP.cel g5) ?_
   refine JO_call Tryz.call53 (vs := [ptr t26_4]) (mc rfl mn) ((hP.spec H).mono ?_ (fun ch Mp h => hX hD h))
   rintro v Mp ⟨M, hP, r6, rfl, H⟩
   refine JO_nil ?_
   refine J_cond (t := r6) rfl (fun hc_ => ?_) (fun hc_ => ?_)
   ·
    replace H := H.1 hc_
    clear hc_
    refine J_seq ?_
    refine J_region (by decide) ?_
    refine JO_assign (v := .int .i64 5) rfl ?_
    refine JO_nil ?_
    exact J_ret (kret (pan := X)  hD (fun _ _ hb => hP.sub hb) (resOk (rs := [.tmp 6]) (vs := [.int .i64 5]) rfl ⟨item_tmp rfl, trivial⟩) ⟨5, rfl, H⟩)
   ·
    replace H := H.2 hc_
    clear hc_
    refine J_skip ?_
    refine J_seq ?_
    refine J_seq ?_
    refine J_region (by decide) ?_
    refine JO_move (v := ptr t0) rfl ?_
    refine JO_move (v := Sl.v t1) rfl ?_
    refine JO_call Tryz.call60 (vs := [ptr t0, Sl.v t1]) (mc rfl (mc rfl mn)) ((hP.spec H).mono ?_ (fun ch Mp h => hX hD h))
    rintro v Mp ⟨M, hP, r7_0_0, r7_0_1, r7_0_2, r7_0_3, r7_0_4, r7_1, rfl, H⟩
    refine JO_move (v := .tuple #[.agg #[.string r7_0_0, .bool r7_0_1, .bool r7_0_2, Sl.v r7_0_3, Sl.v r7_0_4], .bool r7_1]) rfl ?_
    refine JO_extract (vs := #[.agg #[.string r7_0_0, .bool r7_0_1, .bool r7_0_2, Sl.v r7_0_3, Sl.v r7_0_4], .bool r7_1]) (v := .agg #[.string r7_0_0, .bool r7_0_1, .bool r7_0_2, Sl.v r7_0_3, Sl.v r7_0_4]) rfl rfl ?_
    refine JO_extract (vs := #[.agg #[.string r7_0_0, .bool r7_0_1, .bool r7_0_2, Sl.v r7_0_3, Sl.v r7_0_4], .bool r7_1]) (v := .bool r7_1) rfl rfl ?_
    refine JO_alloc (cs := [.string (⟨#[]⟩ : ByteArray), .bool false, .bool false, Sl.v (⟨none, 0, 0⟩ : Sl), Sl.v (⟨none, 0, 0⟩ : Sl)]) zc_125 ?_
    intro b8 hb
    replace hP : Pv _ [(b8, .cells #[.string (⟨#[]⟩ : ByteArray), .bool false, .bool false, Sl.v (⟨none, 0, 0⟩ : Sl), Sl.v (⟨none, 0, 0⟩ : Sl)] 125 (0, 0))] _ := hP.box hb _
    refine JO_storeAgg (p := (b8, 0)) (cs := [.string r7_0_0, .bool r7_0_1, .bool r7_0_2, Sl.v r7_0_3, Sl.v r7_0_4]) sz_125 rfl rfl (all_cons rfl (all_cons rfl (all_cons rfl (all_cons rfl (all_cons rfl all_nil))))) (fun j hj => wrOf (hP.get 0 rfl) (by simp at hj ⊢; omega) (by simp)) ?_
    replace hP : Pv _ [(b8, .cells #[.string r7_0_0, .bool r7_0_1, .bool r7_0_2, Sl.v r7_0_3, Sl.v r7_0_4] 125 (0, 0))] _ := Pv.stosL (i := 0) [.string r7_0_0, .bool r7_0_1, .bool r7_0_2, Sl.v r7_0_3, Sl.v r7_0_4] [.string (⟨#[]⟩ : ByteArray), .bool false, .bool false, Sl.v (⟨none, 0, 0⟩ : Sl), Sl.v (⟨none, 0, 0⟩ : Sl)] 0 _ _ hP rfl
    refine JO_assign (v := .bool r7_1) rfl ?_
    refine JO_nil ?_
    refine J_seq ?_
    refine J_region (by decide) ?_
    refine JO_move (v := .bool r7_1) rfl ?_
    refine JO_nil ?_
    refine J_cond (t := r7_1) rfl (fun hc_ => ?_) (fun hc_ => ?_)
    ·
     replace H := H.1 hc_
     clear hc_
     refine J_seq ?_
     refine J_region (by decide) ?_
     refine JO_assign (v := .int .i64 0) rfl ?_
     refine JO_nil ?_
     exact J_ret (kret (pan := X)  hD (fun _ _ hb => hP.sub hb) (resOk (rs := [.tmp 6]) (vs := [.int .i64 0]) rfl ⟨item_tmp rfl, trivial⟩) ⟨0, rfl, H⟩)
    ·
     replace H := H.2 hc_
     clear hc_
     refine J_skip ?_
     refine J_seq ?_
     refine J_region (by decide) ?_
     refine JO_move (v := ptr t0) rfl ?_
     refine JO_move (v := Sl.v t1) rfl ?_
     refine JO_call Tryz.call61 (vs := [ptr t0, Sl.v t1]) (mc rfl (mc rfl mn)) ((hP.spec H).mono ?_ (fun ch Mp h => hX hD h))
     rintro v Mp ⟨M, hP, r9, rfl, H⟩
     refine JO_assign (v := .string r9) rfl ?_
     refine JO_nil ?_
     refine J_seq ?_
     refine J_seq ?_
     refine J_region (by decide) ?_
     refine JO_move (v := .string r9) rfl ?_
     refine JO_scmp (op := .eql) (a := r9) (b := (⟨#[]⟩ : ByteArray)) (v := .bool (seq r9 (⟨#[]⟩ : ByteArray))) rfl rfl rfl ?_
     refine JO_nil ?_
     refine J_cond (t := seq r9 (⟨#[]⟩ : ByteArray)) rfl (fun hc_ => ?_) (fun hc_ => ?_)
     ·
      replace H := H.1 hc_
      clear hc_
      refine J_seq ?_
      refine J_region (by decide) ?_
      refine JO_assign (v := .int .i64 2) rfl ?_
      refine JO_nil ?_
      exact J_ret (kret (pan := X)  hD (fun _ _ hb => hP.sub hb) (resOk (rs := [.tmp 6]) (vs := [.int .i64 2]) rfl ⟨item_tmp rfl, trivial⟩) ⟨2, rfl, H⟩)
     ·
      replace H := H.2 hc_
      clear hc_
      refine J_skip ?_
      refine J_seq ?_
      refine J_region (by decide) ?_
      refine JO_move (v := ptr t0) rfl ?_
      refine JO_move (v := .string r9) rfl ?_
      refine JO_move (v := Sl.v r1_0) rfl ?_
      refine JO_call Tryz.call62 (vs := [ptr t0, .string r9, Sl.v r1_0]) (mc rfl (mc rfl (mc rfl mn))) ((hP.spec H).mono ?_ (fun ch Mp h => hX hD h))
      rintro v Mp ⟨M, hP, r10, rfl, H⟩
      refine JO_assign (v := .int .i64 r10) rfl ?_
      refine JO_nil ?_
      exact J_ret (kret (pan := X)  hD (fun _ _ hb => hP.sub hb) (resOk (rs := [.tmp 6]) (vs := [.int .i64 r10]) rfl ⟨item_tmp rfl, trivial⟩) ⟨r10, rfl, H⟩)

/-! brazier/cas.Parse -/
def S17_1 (t5_ : Sl) (t20_ : Bool) (K : Sl → Sl → Bool → Mem → Prop) (X : List PanicEntry → Mem → Prop) : Mem → Prop :=
 ite' t20_ (K (⟨none, 0, 0⟩ : Sl) (⟨none, 0, 0⟩ : Sl) false) (ix t5_ 1 0 fun p8 => ix t5_ 1 1 fun p13 => ldL p8 fun t23_14 => ldL p13 fun t26_16 => K t23_14 t26_16 true)
def S17 (t0 : Sl) (K : Sl → Sl → Bool → Mem → Prop) (X : List PanicEntry → Mem → Prop) : Mem → Prop :=
 call 65 [Sl.v t0] X fun v_ M => ∃ (r1_0 : Sl) (r1_1 : Int), v_ = .tuple #[Sl.v r1_0, .int .i64 r1_1] ∧ ( ite' (r1_1 != (t0.n : Int)) (S17_1 r1_0 true K X) (S17_1 r1_0 ((r1_0.n : Int) != 2) K X)) M
abbrev F17_1 (K : Sl → Sl → Bool → Mem → Prop) (X : List PanicEntry → Mem → Prop) (e : Env) (Mp : Mem) : Prop := ∃ (t5_ : Sl) (t20_ : Bool) (M : Mem), e.D = [] ∧ e.v 5 = Sl.v t5_ ∧ e.v 20 = .bool t20_ ∧ Pv M [] Mp ∧ S17_1 t5_ t20_ K X M
theorem br17 {t0 : Sl} {K : Sl → Sl → Bool → Mem → Prop} {X : List PanicEntry → Mem → Prop} {M : Mem} (H : S17 t0 K X M) :
  Spec Tryz.prog 17 #[Sl.v t0] M (fun v_ M => ∃ (r0 : Sl) (r1 : Sl) (r2 : Bool), v_ = .tuple #[Sl.v r0, Sl.v r1, .bool r2] ∧ K r0 r1 r2 M) X := by
 refine spec_of_J (args := [Sl.v t0]) Tryz.func17 rfl Tryz.ntmps17 (Nat.le_of_ble_eq_true rfl) ?_
 have hD : (⟨fun i => ([Sl.v t0] : List Value).getD i undef, []⟩ : Env).D = [] := rfl
 have hP := Pv.nil M
 have hX := @kx_of Tryz.prog Tryz.f17 (fun v_ M => ∃ (r0 : Sl) (r1 : Sl) (r2 : Bool), v_ = .tuple #[Sl.v r0, Sl.v r1, .bool r2] ∧ K r0 r1 r2 M) X
 unfold S17 at H
 refine J_seq ?_
 refine J_region (by decide) ?_
 refine JO_assign (v := Sl.v (⟨none, 0, 0⟩ : Sl)) rfl ?_
 refine JO_assign (v := Sl.v (⟨none, 0, 0⟩ : Sl)) rfl ?_
 refine JO_assign (v := .bool false) rfl ?_
 refine JO_nil ?_
 refine J_seq ?_
 refine J_region (by decide) ?_
 refine JO_move (v := Sl.v t0) rfl ?_
 refine JO_call Tryz.call65 (vs := [Sl.v t0]) (mc rfl mn) ((hP.spec H).mono ?_ (fun ch Mp h => hX hD h))
 rintro v Mp ⟨M, hP, r1_0, r1_1, rfl, H⟩
 refine JO_move (v := .tuple #[Sl.v r1_0, .int .i64 r1_1]) rfl ?_
 refine JO_extract (vs := #[Sl.v r1_0, .int .i64 r1_1]) (v := Sl.v r1_0) rfl rfl ?_
 refine JO_extract (vs := #[Sl.v r1_0, .int .i64 r1_1]) (v := .int .i64 r1_1) rfl rfl ?_
 refine JO_assign (v := Sl.v r1_0) rfl ?_
 refine JO_assign (v := .int .i64 r1_1) rfl ?_
 refine JO_nil ?_
 refine J_seq ?_
 refine J_seq ?_
 refine J_region (by decide) ?_
 refine JO_move (v := .int .i64 r1_1) rfl ?_
 refine JO_move (v := Sl.v t0) rfl ?_
 refine JO_len (s := t0) is_32 rfl ?_
 refine JO_iop (op := .neq) (k := .i64) (a := r1_1) (b := (t0.n : Int)) rfl rfl trivial ?_
 refine JO_move (v := .bool (r1_1 != (t0.n : Int))) rfl ?_
 refine JO_cut 4 (F17_1 K X) ?_ ?_
 ·
  obtain ⟨H1, H2⟩ := H
  obtain hc_ | hc_ := ff_or_tt (r1_1 != (t0.n : Int))
  ·
   replace H := H2 hc_
   clear H1 H2
   have hg2 := (congrArg Value.bool hc_ : Value.bool (r1_1 != (t0.n : Int)) = Value.bool false)
   refine JO_on (s := 16) hg2 ?_
   refine JO_move (v := Sl.v r1_0) rfl ?_
   refine JO_on (s := 16) hg2 ?_
   refine JO_len (s := r1_0) is_55 rfl ?_
   refine JO_on (s := 16) hg2 ?_
   refine JO_iop (op := .neq) (k := .i64) (a := (r1_0.n : Int)) (b := 2) rfl rfl trivial ?_
   refine JO_pick (b := false) (v := .bool ((r1_0.n : Int) != 2)) hg2 rfl ?_
   refine JO_nil ?_
   exact (show F17_1 K X _ _ from ⟨r1_0, (r1_0.n : Int) != 2, _, hD, rfl, rfl, hP, H⟩)
  ·
   replace H := H1 hc_
   clear H1 H2
   have hg3 := (congrArg Value.bool hc_ : Value.bool (r1_1 != (t0.n : Int)) = Value.bool true)
   refine JO_off (s := 16) (c := true) hg3 (by decide) ?_
   refine JO_off (s := 16) (c := true) hg3 (by decide) ?_
   refine JO_off (s := 16) (c := true) hg3 (by decide) ?_
   refine JO_pick (b := true) (v := .bool true) hg3 rfl ?_
   refine JO_nil ?_
   exact (show F17_1 K X _ _ from ⟨r1_0, true, _, hD, rfl, rfl, hP, H⟩)
 ·
  rintro e Mp ⟨t5_, t20_, M, hD, h5, h20, hP, H⟩
  unfold S17_1 at H
  refine JO_nil ?_
  refine J_cond (t := t20_) h20 (fun hc_ => ?_) (fun hc_ => ?_)
  ·
   replace H := H.1 hc_
   clear hc_
   refine J_seq ?_
   refine J_region (by decide) ?_
   refine JO_assign (v := Sl.v (⟨none, 0, 0⟩ : Sl)) rfl ?_
   refine JO_assign (v := Sl.v (⟨none, 0, 0⟩ : Sl)) rfl ?_
   refine JO_assign (v := .bool false) rfl ?_
   refine JO_nil ?_
   exact J_ret (kret (pan := X)  hD (fun _ _ hb => hP.sub hb) (resOk (rs := [.tmp 2, .tmp 3, .tmp 4]) (vs := [Sl.v (⟨none, 0, 0⟩ : Sl), Sl.v (⟨none, 0, 0⟩ : Sl), .bool false]) rfl ⟨item_tmp rfl, item_tmp rfl, item_tmp rfl, trivial⟩) ⟨(⟨none, 0, 0⟩ : Sl), (⟨none, 0, 0⟩ : Sl), false, rfl, H⟩)
  ·
   replace H := H.2 hc_
   clear hc_
   refine J_skip ?_
   refine J_seq ?_
   refine J_draw [0, 0, 1, 0, 0, 1, 0, 0, 0] (.cho 0 (.cho 1 (.cho 3 (.cho 4 (.cho 2 (.cho 6 (.cho 5 (.cho 7 (.cho 8 .done .none) .none) .none) .none) .none) .none) .none) .none) .none) rfl (by kernel_rfl) ?_
   refine JE_one ?_
   refine ST0 (fun _ h => by cases h) (fun w => OV_move (v := Sl.v t5_) (by exact h5) w) ?_
   refine JE_one ?_
   obtain ⟨a4, g5, g6, g7, H⟩ := H
   refine ST0 (fun _ h => by cases h) (fun w => OV_indexAddr (s := t5_) (p := a4) (i := 0) es_55 rfl rfl g5 g6 g7 w) ?_
   obtain ⟨p8, hq_⟩ : ∃ q : PA, q = (a4.1, a4.2 + (0 : Int).toNat * 1) := ⟨_, rfl⟩; rw [← hq_] at H ⊢; clear hq_
   refine JE_one ?_
   refine ST0 (fun _ h => by cases h) (fun w => OV_move (v := Sl.v t5_) (by exact h5) w) ?_
   refine JE_one ?_
   obtain ⟨a9, g10, g11, g12, H⟩ := H
   refine ST0 (fun _ h => by cases h) (fun w => OV_indexAddr (s := t5_) (p := a9) (i := 1) es_55 rfl rfl g10 g11 g12 w) ?_
   obtain ⟨p13, hq_⟩ : ∃ q : PA, q = (a9.1, a9.2 + (1 : Int).toNat * 1) := ⟨_, rfl⟩; rw [← hq_] at H ⊢; clear hq_
   refine JE_one ?_
   obtain ⟨t23_14, g15, H⟩ := H
   refine ST1 (fun _ h => by cases h) (fun w hs => OV_load (p := p8) (v := Sl.v t23_14) na_32 rfl (hP.cel g15) w hs) ?_
   refine JE_one ?_
   refine ST0 (fun _ h => by cases h) (fun w => OV_assign (v := Sl.v t23_14) rfl w) ?_
   refine JE_one ?_
   obtain ⟨t26_16, g17, H⟩ := H
   refine ST1 (fun _ h => by cases h) (fun w hs => OV_load (p := p13) (v := Sl.v t26_16) na_32 rfl (hP.cel g17) w hs) ?_
   refine JE_one ?_
   refine ST0 (fun _ h => by cases h) (fun w => OV_assign (v := Sl.v t26_16) rfl w) ?_
   refine JE_one ?_
   refine ST0 (fun _ h => by cases h) (fun w => OV_assign (v := .bool true) rfl w) ?_
   refine JE_done ?_
   exact J_ret (kret (pan := X)  hD (fun _ _ hb => hP.sub hb) (resOk (rs := [.tmp 2, .tmp 3, .tmp 4]) (vs := [Sl.v t23_14, Sl.v t26_16, .bool true]) rfl ⟨item_tmp rfl, item_tmp rfl, item_tmp rfl, trivial⟩) ⟨t23_14, t26_16, true, rfl, H⟩)

/-! (*brazier/cas.Store).Keys -/
def S27_2 (a1_ : PA) (a2_ : PA) (t14_ : Value) (K : Sl → Mem → Prop) (X : List PanicEntry → Mem → Prop) (nx1 : Mem → Prop) (rt1 : Code → Mem → Prop) : Mem → Prop :=
 nx1
def S27_3 (t4_ : Sl) (t24_ : Bool) (a1_ : PA) (a2_ : PA) (t14_ : Value) (K : Sl → Mem → Prop) (X : List PanicEntry → Mem → Prop) (nx1 : Mem → Prop) (rt1 : Code → Mem → Prop) : Mem → Prop :=
 ite' t24_ (call 17 [Sl.v t4_] (fun _ _ => False) fun v_ M => ∃ (r23_0 : Sl) (r23_1 : Sl) (r23_2 : Bool), v_ = .tuple #[Sl.v r23_0, Sl.v r23_1, .bool r23_2] ∧ ( ldL a2_ fun t31_24 => new (.cells #[Sl.v r23_0] 32 (0, 0)) fun b26 => appS 32 1 24 [Sl.v (⟨none, 0, 0⟩ : Sl)] t31_24 (⟨some (b26, 0), 1, 1⟩ : Sl) fun x27 => st a2_ (Sl.v x27) <| S27_2 a1_ a2_ t14_ K X nx1 rt1) M) (S27_2 a1_ a2_ t14_ K X nx1 rt1)
def S27_1b (a1_ : PA) (a2_ : PA) (t14_ : Value) (K : Sl → Mem → Prop) (X : List PanicEntry → Mem → Prop) (y15 : ByteArray) (y16 : Sl) (nx1 : Mem → Prop) (rt1 : Code → Mem → Prop) : Mem → Prop :=
 call 55 [.string y15, .string (⟨#[99, 45]⟩ : ByteArray)] (fun _ _ => False) fun v_ M => ∃ (r17 : Bool), v_ = .bool r17 ∧ ( ite' r17 (ldP a1_ fun t20_20 => call 56 [ptr t20_20, .string y15, Sl.v y16] (fun _ _ => False) fun v_ M => ∃ (r22 : Bool), v_ = .bool r22 ∧ ( S27_3 y16 r22 a1_ a2_ t14_ K X nx1 rt1) M) (S27_3 y16 false a1_ a2_ t14_ K X nx1 rt1)) M
def S27_1 (a1_ : PA) (a2_ : PA) (t14_ : Value) (K : Sl → Mem → Prop) (X : List PanicEntry → Mem → Prop) : Mem → Prop :=
 rng t14_ 2 (fun args_ nx rt M => ∃ (y15 : ByteArray) (y16 : Sl), args_ = [.string y15, Sl.v y16] ∧ S27_1b a1_ a2_ t14_ K X y15 y16 nx rt M) (ldL a2_ fun t35_29 => call 70 [Sl.v t35_29, .func (.func 71) #[] #[]] X fun v_ M => ( ldL a2_ fun t37_32 => call 72 [Sl.v t37_32, .func (.func 73) #[] #[]] X fun v_ M => ∃ (r34 : Sl), v_ = Sl.v r34 ∧ ( st a2_ (Sl.v r34) <| ldL (a2_.1, a2_.2) fun z36 => K z36) M) M) (fun _ _ => False)
def S27 (t0 : Option PA) (K : Sl → Mem → Prop) (X : List PanicEntry → Mem → Prop) : Mem → Prop :=
 new (.cells #[ptr t0] 28 (0, 0)) fun b1 => new (.cells #[Sl.v (⟨none, 0, 0⟩ : Sl)] 55 (0, 0)) fun b2 => ldP (b1, 0) fun t8_3 => ite' t8_3.isNone (st (b2, 0) (Sl.v (⟨none, 0, 0⟩ : Sl)) <| ldL (b2, 0) fun z6 => K z6) (ldP (b1, 0) fun t10_8 => nn t10_8 fun a10 => ldP a10 fun t13_12 => call 54 [ptr t13_12] X fun v_ M => ∃ (r14 : Value), v_ = r14 ∧ ( S27_1 (b1, 0) (b2, 0) r14 K X) M)
abbrev F27_3 (a1_ : PA) (a2_ : PA) (t14_ : Value) (K : Sl → Mem → Prop) (X : List PanicEntry → Mem → Prop) (nx1 : Mem → Prop) (rt1 : Code → Mem → Prop) (e : Env) (Mp : Mem) : Prop := ∃ (t4_ : Sl) (t24_ : Bool) (M : Mem), e.D = [] ∧ e.v 2 = ptr (some a2_) ∧ e.v 4 = Sl.v t4_ ∧ e.v 24 = .bool t24_ ∧ Pv M [] Mp ∧ S27_3 t4_ t24_ a1_ a2_ t14_ K X nx1 rt1 M
abbrev F27_2 (a1_ : PA) (a2_ : PA) (t14_ : Value) (K : Sl → Mem → Prop) (X : List PanicEntry → Mem → Prop) (nx1 : Mem → Prop) (rt1 : Code → Mem → Prop) (e : Env) (Mp : Mem) : Prop := ∃ (M : Mem), e.D = [] ∧ Pv M [] Mp ∧ S27_2  a1_ a2_ t14_ K X nx1 rt1 M
abbrev F27_1 (K : Sl → Mem → Prop) (X : List PanicEntry → Mem → Prop) (e : Env) (Mp : Mem) : Prop := ∃ (a1_ : PA) (a2_ : PA) (t14_ : Value) (M : Mem), e.D = [] ∧ e.v 1 = ptr (some a1_) ∧ e.v 2 = ptr (some a2_) ∧ e.v 14 = t14_ ∧ Pv M [] Mp ∧ S27_1 a1_ a2_ t14_ K X M
theorem br27 {t0 : Option PA} {K : Sl → Mem → Prop} {X : List PanicEntry → Mem → Prop} {M : Mem} (H : S27 t0 K X M) :
  Spec Tryz.prog 27 #[ptr t0] M (fun v_ M => ∃ (r0 : Sl), v_ = Sl.v r0 ∧ K r0 M) X := by
 refine spec_of_J (args := [ptr t0]) Tryz.func27 rfl Tryz.ntmps27 (Nat.le_of_ble_eq_true rfl) ?_
 have hD : (⟨fun i => ([ptr t0] : List Value).getD i undef, []⟩ : Env).D = [] := rfl
 have hP := Pv.nil M
 have hX := @kx_of Tryz.prog Tryz.f27 (fun v_ M => ∃ (r0 : Sl), v_ = Sl.v r0 ∧ K r0 M) X
 unfold S27 at H
 refine J_seq ?_
 refine J_region (by decide) ?_
 refine JO_box (v := ptr t0) rfl ?_
 intro b1 hb
 replace H := H b1 (hP.out hb).1
 replace hP := hP.new hb (.cells #[ptr t0] 28 (0, 0))
 refine JO_alloc (cs := [Sl.v (⟨none, 0, 0⟩ : Sl)]) zc_55 ?_
 intro b2 hb
 replace H := H b2 (hP.out hb).1
 replace hP := hP.new hb (.cells #[Sl.v (⟨none, 0, 0⟩ : Sl)] 55 (0, 0))
 refine JO_nil ?_
 refine J_seq ?_
 refine J_seq ?_
 refine J_region (by decide) ?_
 obtain ⟨t8_3, g4, H⟩ := H
 refine JO_load (p := (b1, 0)) (v := ptr t8_3) na_28 rfl (hP.cel g4) ?_
 refine JO_eqlNil (p := t8_3) ip_28 rfl rfl ?_
 refine JO_nil ?_
 refine J_cond (t := t8_3.isNone) rfl (fun hc_ => ?_) (fun hc_ => ?_)
 ·
  replace H := H.1 hc_
  clear hc_
  refine J_seq ?_
  refine J_region (by decide) ?_
  obtain ⟨g5, H⟩ := H
  refine JO_store (p := (b2, 0)) (v := Sl.v (⟨none, 0, 0⟩ : Sl)) sz_55 rfl rfl rfl (hP.wr g5) ?_
  replace hP := hP.sto g5 (Sl.v (⟨none, 0, 0⟩ : Sl))
  refine JO_nil ?_
  obtain ⟨z6, g7, H⟩ := H
  exact J_ret (kret (pan := X)  hD (fun _ _ hb => hP.sub hb) (resOk (rs := [.cell 2 55]) (vs := [Sl.v z6]) rfl ⟨item_cell (p := (b2, 0)) na_55 rfl (hP.cel g7), trivial⟩) ⟨z6, rfl, H⟩)
 ·
  replace H := H.2 hc_
  clear hc_
  refine J_skip ?_
  refine J_seq ?_
  refine J_seq ?_
  refine J_region (by decide) ?_
  obtain ⟨t10_8, g9, H⟩ := H
  refine JO_load (p := (b1, 0)) (v := ptr t10_8) na_28 rfl (hP.cel g9) ?_
  obtain ⟨a10, g11, H⟩ := H
  refine JO_nilCheck (p := a10) (tr1 (rfl : _ = ptr t10_8) (congrArg ptr g11)) ?_
  refine JO_fieldAddr (p := a10) fo_117_0 rfl ?_
  obtain ⟨t13_12, g13, H⟩ := H
  refine JO_load (p := a10) (v := ptr t13_12) na_26 rfl (hP.cel g13) ?_
  refine JO_call Tryz.call54 (vs := [ptr t13_12]) (mc rfl mn) ((hP.spec H).mono ?_ (fun ch Mp h => hX hD h))
  rintro r14 Mp ⟨M, hP, _, rfl, H⟩
  refine JO_nil ?_
  refine J_block ?_
  refine J_of (F27_1 K X) (show F27_1 K X _ _ from ⟨(b1, 0), (b2, 0), r14, _, hD, rfl, rfl, rfl, hP, H⟩) ?_
  rintro e Mp ⟨a1_, a2_, t14_, M, hD, h1, h2, h14, hP, H⟩
  unfold S27_1 at H
  refine J_forget (fun _ _ hb => hP.sub hb) ?_
  obtain ⟨f_, caps_, hf_, he_, H⟩ := H
  refine J_range (gf := f_) (caps := caps_) (h14.trans hf_) he_ (by decide) ?_
  intro y_ l_ oR_ oD_ hM_ law_
  refine (H y_ l_ oR_ oD_ hM_ ?_).mono ?_ (fun _ _ f => f)
  ·
   rintro args_ κ_ M hlen_ hl_ ⟨y15, y16, rfl, hb_⟩ ro_
   refine law_ _ κ_ M hlen_ hl_ ?_ ro_
   obtain ⟨nx1, rt1, hn_1, hr_1, H⟩ : ∃ (nx : Mem → Prop) (rt : Code → Mem → Prop), (∀ M, M l_ = none → nx M → κ_ (.bool true) (M.upd l_ oR_)) ∧ (∀ c M, M l_ = none → rt c M → κ_ (.bool false) (M.upd l_ (oD_ c))) ∧ S27_1b a1_ a2_ t14_ K X y15 y16 nx rt (M.del l_) := ⟨_, _, fun _ h0 h => h h0, fun _ _ h0 h => h h0, hb_⟩
   clear hb_ hlen_ hl_ hP
   generalize M.del l_ = M at H ⊢
   have hP := Pv.nil M
   have hD : ([] : List Deferred) = [] := rfl
   unfold S27_1b at H
   refine J_seq ?_
   refine J_region (by decide) ?_
   refine JO_assign (v := .string y15) rfl ?_
   refine JO_nil ?_
   refine J_region (by decide) ?_
   refine JO_assign (v := Sl.v y16) rfl ?_
   refine JO_nil ?_
   refine kd_nx ?_
   refine J_blockF (F27_2 a1_ a2_ t14_ K X nx1 rt1) ?_ ?_
   ·
    refine J_seq ?_
    refine J_region (by decide) ?_
    refine JO_move (v := .string y15) rfl ?_
    refine JO_call Tryz.call55 (vs := [.string y15, .string (⟨#[99, 45]⟩ : ByteArray)]) (mc rfl (mc rfl mn)) ((hP.spec H).mono ?_ (fun _ _ ⟨_, _, f⟩ => f.elim))
    rintro v Mp ⟨M, hP, r17, rfl, H⟩
    refine JO_move (v := .bool r17) rfl ?_
    refine JO_cut 5 (F27_3 a1_ a2_ t14_ K X nx1 rt1) ?_ ?_
    ·
     obtain ⟨H1, H2⟩ := H
     obtain hc_ | hc_ := ff_or_tt r17
     ·
      replace H := H2 hc_
      clear H1 H2
      have hg18 := (congrArg Value.bool hc_ : Value.bool r17 = Value.bool false)
      refine JO_off (s := 19) (c := false) hg18 (by decide) ?_
      refine JO_off (s := 19) (c := false) hg18 (by decide) ?_
      refine JO_off (s := 19) (c := false) hg18 (by decide) ?_
      refine JO_off (s := 19) (c := false) hg18 (by decide) ?_
      refine JO_pick (b := false) (v := .bool false) hg18 rfl ?_
      refine JO_nil ?_
      exact (show F27_3 a1_ a2_ t14_ K X nx1 rt1 _ _ from ⟨y16, false, _, hD, h2, rfl, rfl, hP, H⟩)
     ·
      replace H := H1 hc_
      clear H1 H2
      have hg19 := (congrArg Value.bool hc_ : Value.bool r17 = Value.bool true)
      refine JO_on (s := 19) hg19 ?_
      obtain ⟨t20_20, g21, H⟩ := H
      refine JO_load (p := a1_) (v := ptr t20_20) na_28 h1 (hP.cel g21) ?_
      refine JO_on (s := 19) hg19 ?_
      refine JO_move (v := .string y15) rfl ?_
      refine JO_on (s := 19) hg19 ?_
      refine JO_move (v := Sl.v y16) rfl ?_
      refine JO_on (s := 19) hg19 ?_
      refine JO_call Tryz.call56 (vs := [ptr t20_20, .string y15, Sl.v y16]) (mc rfl (mc rfl (mc rfl mn))) ((hP.spec H).mono ?_ (fun _ _ ⟨_, _, f⟩ => f.elim))
      rintro v Mp ⟨M, hP, r22, rfl, H⟩
      refine JO_pick (b := true) (v := .bool r22) hg19 rfl ?_
      refine JO_nil ?_
      exact (show F27_3 a1_ a2_ t14_ K X nx1 rt1 _ _ from ⟨y16, r22, _, hD, h2, rfl, rfl, hP, H⟩)
    ·
     rintro e Mp ⟨t4_, t24_, M, hD, h2, h4, h24, hP, H⟩
     unfold S27_3 at H
     refine JO_nil ?_
     refine J_cond (t := t24_) h24 (fun hc_ => ?_) (fun hc_ => ?_)
     ·
      replace H := H.1 hc_
      clear hc_
      refine J_seq ?_
      refine J_region (by decide) ?_
      refine JO_move (v := Sl.v t4_) h4 ?_
      refine JO_call Tryz.call17 (vs := [Sl.v t4_]) (mc rfl mn) ((hP.spec H).mono ?_ (fun _ _ ⟨_, _, f⟩ => f.elim))
      rintro v Mp ⟨M, hP, r23_0, r23_1, r23_2, rfl, H⟩
      refine JO_move (v := .tuple #[Sl.v r23_0, Sl.v r23_1, .bool r23_2]) rfl ?_
      refine JO_extract (vs := #[Sl.v r23_0, Sl.v r23_1, .bool r23_2]) (v := Sl.v r23_0) rfl rfl ?_
      refine JO_extract (vs := #[Sl.v r23_0, Sl.v r23_1, .bool r23_2]) (v := Sl.v r23_1) rfl rfl ?_
      refine JO_extract (vs := #[Sl.v r23_0, Sl.v r23_1, .bool r23_2]) (v := .bool r23_2) rfl rfl ?_
      refine JO_assign (v := Sl.v r23_0) rfl ?_
      refine JO_assign (v := Sl.v r23_1) rfl ?_
      refine JO_assign (v := .bool r23_2) rfl ?_
      refine JO_nil ?_
      refine J_region (by decide) ?_
      obtain ⟨t31_24, g25, H⟩ := H
      refine JO_load (p := a2_) (v := Sl.v t31_24) na_55 h2 (hP.cel g25) ?_
      refine JO_move (v := Sl.v r23_0) rfl ?_
      refine JO_bsl (vs := [(0, Sl.v r23_0)]) (cs := [Sl.v r23_0]) (c0 := [Sl.v (⟨none, 0, 0⟩ : Sl)]) ul_55 sz_32 zc_32 (by kernel_rfl) (by decide) (by decide) (mpc rfl mpn) rfl ?_
      intro b26 hb
      replace H := H b26 (hP.out hb).1
      replace hP := hP.new hb (.cells #[Sl.v r23_0] 32 (0, 0))
      refine JO_loud ((hP.opJ (OpJ_app (s := t31_24) (z := (⟨some (b26, 0), 1, 1⟩ : Sl)) ul_55 sb_32 zc_32 rfl rfl H)).mono (fun _ _ h => h) (fun _ _ ⟨_, _, f⟩ => f.elim)) ?_
      rintro _ Mp ⟨M, hP, x27, rfl, H⟩
      obtain ⟨g28, H⟩ := H
      refine JO_store (p := a2_) (v := Sl.v x27) sz_55 h2 rfl rfl (hP.wr g28) ?_
      replace hP := hP.sto g28 (Sl.v x27)
      refine JO_nil ?_
      exact (show F27_2 a1_ a2_ t14_ K X nx1 rt1 _ _ from ⟨_, hD, hP, H⟩)
     ·
      replace H := H.2 hc_
      clear hc_
      refine J_skip ?_
      exact (show F27_2 a1_ a2_ t14_ K X nx1 rt1 _ _ from ⟨_, hD, hP, H⟩)
   ·
    rintro e Mp ⟨M, hD, hP, H⟩
    unfold S27_2 at H
    exact rb_nx (oR := oR_) (oD := oD_) (e := ⟨fun _ => undef, []⟩) fun hl_ => ⟨_, fun _ _ hb => hP.sub hb, hn_1 _ (sub_none (b := l_) (fun _ _ hb => hP.sub hb) hl_) H⟩
  ·
   rintro _ M (⟨hl_, H⟩ | ⟨c_, hl_, H⟩)
   ·
    refine .inl ⟨hl_, ?_⟩
    clear hl_ hP
    generalize M.del l_ = M at H ⊢
    have hP := Pv.nil M
    refine J_seq ?_
    refine J_region (by decide) ?_
    obtain ⟨t35_29, g30, H⟩ := H
    refine JO_load (p := a2_) (v := Sl.v t35_29) na_55 h2 (hP.cel g30) ?_
    refine JO_call Tryz.call70 (vs := [Sl.v t35_29, .func (.func 71) #[] #[]]) (mc rfl (mc rfl mn)) ((hP.spec H).mono ?_ (fun ch Mp h => hX hD h))
    rintro rv_ Mp ⟨M, hP, H⟩
    refine JO_nil ?_
    refine J_seq ?_
    refine J_region (by decide) ?_
    obtain ⟨t37_32, g33, H⟩ := H
    refine JO_load (p := a2_) (v := Sl.v t37_32) na_55 h2 (hP.cel g33) ?_
    refine JO_call Tryz.call72 (vs := [Sl.v t37_32, .func (.func 73) #[] #[]]) (mc rfl (mc rfl mn)) ((hP.spec H).mono ?_ (fun ch Mp h => hX hD h))
    rintro v Mp ⟨M, hP, r34, rfl, H⟩
    obtain ⟨g35, H⟩ := H
    refine JO_store (p := a2_) (v := Sl.v r34) sz_55 h2 rfl rfl (hP.wr g35) ?_
    replace hP := hP.sto g35 (Sl.v r34)
    refine JO_nil ?_
    obtain ⟨z36, g37, H⟩ := H
    exact J_ret (kret (pan := X)  hD (fun _ _ hb => hP.sub hb) (resOk (rs := [.cell 2 55]) (vs := [Sl.v z36]) rfl ⟨item_cell (p := a2_) na_55 (by exact h2) (hP.cel g37), trivial⟩) ⟨z36, rfl, H⟩)
   ·
    exact H.elim

/-! (*brazier/cas.Store).isSound -/
def S56_1 (K : Bool → Mem → Prop) (X : List PanicEntry → Mem → Prop) : Mem → Prop :=
 K false
def S56_2b (t0_ : Option PA) (t1_ : ByteArray) (t7_ : Sl) (K : Bool → Mem → Prop) (X : List PanicEntry → Mem → Prop) (t19_ : Int) (next2 : Int → Mem → Prop) : Mem → Prop :=
 ite' (decide (t19_ < 8)) (nn t0_ fun a2 => ldI .i64 (a2.1, a2.2 + 1) fun t27_4 => call 119 [Sl.v t7_, .int .i64 t27_4, .int .i64 t19_] X fun v_ M => ∃ (r6 : ByteArray), v_ = .string r6 ∧ ( ite' (seq t1_ r6) (K true) (next2 (IntKind.wrap .i64 (t19_ + 1)))) M) (S56_1 K X)
def S56_2 (t0_ : Option PA) (t1_ : ByteArray) (t7_ : Sl) (t19_ : Int) (K : Bool → Mem → Prop) (X : List PanicEntry → Mem → Prop) : Mem → Prop :=
 Lp (fun (s_ : Int) next2 => S56_2b t0_ t1_ t7_ K X s_ next2) t19_
def S56 (t0 : Option PA) (t1 : ByteArray) (t2 : Sl) (K : Bool → Mem → Prop) (X : List PanicEntry → Mem → Prop) : Mem → Prop :=
 call 17 [Sl.v t2] X fun v_ M => ∃ (r1_0 : Sl) (r1_1 : Sl) (r1_2 : Bool), v_ = .tuple #[Sl.v r1_0, Sl.v r1_1, .bool r1_2] ∧ ( ite' (!r1_2) (K false) (S56_2 t0 t1 r1_0 0 K X)) M
abbrev F56_2 (K : Bool → Mem → Prop) (X : List PanicEntry → Mem → Prop) (e : Env) (Mp : Mem) : Prop := ∃ (t0_ : Option PA) (t1_ : ByteArray) (t7_ : Sl) (t19_ : Int) (M : Mem), e.D = [] ∧ e.v 0 = ptr t0_ ∧ e.v 1 = .string t1_ ∧ e.v 7 = Sl.v t7_ ∧ e.v 19 = .int .i64 t19_ ∧ Pv M [] Mp ∧ S56_2 t0_ t1_ t7_ t19_ K X M
abbrev F56_1 (K : Bool → Mem → Prop) (X : List PanicEntry → Mem → Prop) (e : Env) (Mp : Mem) : Prop := ∃ (M : Mem), e.D = [] ∧ Pv M [] Mp ∧ S56_1  K X M
theorem br56 {t0 : Option PA} {t1 : ByteArray} {t2 : Sl} {K : Bool → Mem → Prop} {X : List PanicEntry → Mem → Prop} {M : Mem} (H : S56 t0 t1 t2 K X M) :
  Spec Tryz.prog 56 #[ptr t0, .string t1, Sl.v t2] M (fun v_ M => ∃ (r0 : Bool), v_ = .bool r0 ∧ K r0 M) X := by
 refine spec_of_J (args := [ptr t0, .string t1, Sl.v t2]) Tryz.func56 rfl Tryz.ntmps56 (Nat.le_of_ble_eq_true rfl) ?_
 have hD : (⟨fun i => ([ptr t0, .string t1, Sl.v t2] : List Value).getD i undef, []⟩ : Env).D = [] := rfl
 have hP := Pv.nil M
 have hX := @kx_of Tryz.prog Tryz.f56 (fun v_ M => ∃ (r0 : Bool), v_ = .bool r0 ∧ K r0 M) X
 unfold S56 at H
 refine J_seq ?_
 refine J_region (by decide) ?_
 refine JO_assign (v := .bool false) rfl ?_
 refine JO_nil ?_
 refine J_seq ?_
 refine J_region (by decide) ?_
 refine JO_move (v := Sl.v t2) rfl ?_
 refine JO_call Tryz.call17 (vs := [Sl.v t2]) (mc rfl mn) ((hP.spec H).mono ?_ (fun ch Mp h => hX hD h))
 rintro v Mp ⟨M, hP, r1_0, r1_1, r1_2, rfl, H⟩
 refine JO_move (v := .tuple #[Sl.v r1_0, Sl.v r1_1, .bool r1_2]) rfl ?_
 refine JO_extract (vs := #[Sl.v r1_0, Sl.v r1_1, .bool r1_2]) (v := Sl.v r1_0) rfl rfl ?_
 refine JO_extract (vs := #[Sl.v r1_0, Sl.v r1_1, .bool r1_2]) (v := Sl.v r1_1) rfl rfl ?_
 refine JO_extract (vs := #[Sl.v r1_0, Sl.v r1_1, .bool r1_2]) (v := .bool r1_2) rfl rfl ?_
 refine JO_assign (v := Sl.v r1_0) rfl ?_
 refine JO_assign (v := Sl.v r1_1) rfl ?_
 refine JO_assign (v := .bool r1_2) rfl ?_
 refine JO_nil ?_
 refine J_seq ?_
 refine J_seq ?_
 refine J_region (by decide) ?_
 refine JO_move (v := .bool r1_2) rfl ?_
 refine JO_not (b := r1_2) rfl ?_
 refine JO_nil ?_
 refine J_cond (t := !r1_2) rfl (fun hc_ => ?_) (fun hc_ => ?_)
 ·
  replace H := H.1 hc_
  clear hc_
  refine J_seq ?_
  refine J_region (by decide) ?_
  refine JO_assign (v := .bool false) rfl ?_
  refine JO_nil ?_
  exact J_ret (kret (pan := X)  hD (fun _ _ hb => hP.sub hb) (resOk (rs := [.tmp 6]) (vs := [.bool false]) rfl ⟨item_tmp rfl, trivial⟩) ⟨false, rfl, H⟩)
 ·
  replace H := H.2 hc_
  clear hc_
  refine J_skip ?_
  refine J_seq ?_
  refine J_seq ?_
  refine J_region (by decide) ?_
  refine JO_move (v := .int .i64 0) rfl ?_
  refine JO_nil ?_
  refine J_blockF (F56_1 K X) ?_ ?_
  ·
   refine J_of (F56_2 K X) (show F56_2 K X _ _ from ⟨t0, t1, r1_0, 0, _, hD, rfl, rfl, rfl, rfl, hP, H⟩) ?_
   rintro e Mp ⟨t0_, t1_, t7_, t19_, M, hD, h0, h1, h7, h19, hP, H⟩
   unfold S56_2 at H
   refine J_loopP (σ := Int) (body := fun (s_ : Int) next2 => S56_2b t0_ t1_ t7_ K X s_ next2) (s := t19_) (M := M) (fun (s_ : Int) (e : Env) (M Mp : Mem) => e.D = [] ∧ e.v 0 = ptr t0_ ∧ e.v 1 = .string t1_ ∧ e.v 7 = Sl.v t7_ ∧ e.v 19 = .int .i64 s_ ∧ Pv M [] Mp) ?_ ⟨hD, h0, h1, h7, h19, hP⟩ H
   rintro next2 t19_ e M Mp ⟨hD, h0, h1, h7, h19, hP⟩ H
   replace H : S56_2b t0_ t1_ t7_ K X t19_ next2 M := H
   unfold S56_2b at H
   refine J_seq ?_
   refine J_region (by decide) ?_
   refine JO_iop (op := .lss) (k := .i64) (a := t19_) (b := 8) h19 rfl trivial ?_
   refine JO_nil ?_
   refine J_seq ?_
   refine J_cond (t := decide (t19_ < 8)) rfl (fun hc_ => ?_) (fun hc_ => ?_)
   ·
    replace H := H.1 hc_
    clear hc_
    refine J_skip ?_
    refine J_seq ?_
    refine J_block ?_
    refine J_seq ?_
    refine J_region (by decide) ?_
    refine JO_move (v := .int .i64 t19_) h19 ?_
    refine JO_assign (v := .int .i64 t19_) rfl ?_
    refine JO_nil ?_
    refine J_seq ?_
    refine J_region (by decide) ?_
    refine JO_move (v := .string t1_) h1 ?_
    refine JO_move (v := Sl.v t7_) h7 ?_
    refine JO_move (v := ptr t0_) h0 ?_
    obtain ⟨a2, g3, H⟩ := H
    refine JO_nilCheck (p := a2) (tr1 (rfl : _ = ptr t0_) (congrArg ptr g3)) ?_
    refine JO_fieldAddr (p := a2) fo_117_1 rfl ?_
    obtain ⟨t27_4, g5, H⟩ := H
    refine JO_load (p := (a2.1, a2.2 + 1)) (v := .int .i64 t27_4) na_3 rfl (hP.cel g5) ?_
    refine JO_move (v := .int .i64 t19_) rfl ?_
    refine JO_call Tryz.call119 (vs := [Sl.v t7_, .int .i64 t27_4, .int .i64 t19_]) (mc rfl (mc rfl (mc rfl mn))) ((hP.spec H).mono ?_ (fun ch Mp h => hX hD h))
    rintro v Mp ⟨M, hP, r6, rfl, H⟩
    refine JO_scmp (op := .eql) (a := t1_) (b := r6) (v := .bool (seq t1_ r6)) rfl rfl rfl ?_
    refine JO_nil ?_
    refine J_cond (t := seq t1_ r6) rfl (fun hc_ => ?_) (fun hc_ => ?_)
    ·
     replace H := H.1 hc_
     clear hc_
     refine J_seq ?_
     refine J_region (by decide) ?_
     refine JO_assign (v := .bool true) rfl ?_
     refine JO_nil ?_
     exact J_ret (kret (pan := X)  hD (fun _ _ hb => hP.sub hb) (resOk (rs := [.tmp 6]) (vs := [.bool true]) rfl ⟨item_tmp rfl, trivial⟩) ⟨true, rfl, H⟩)
    ·
     replace H := H.2 hc_
     clear hc_
     refine J_skip ?_
     refine J_region (by decide) ?_
     refine JO_iop (op := .add) (k := .i64) (a := t19_) (b := 1) h19 rfl trivial ?_
     refine JO_move (v := .int .i64 (IntKind.wrap .i64 (t19_ + 1))) rfl ?_
     refine JO_nil ?_
     exact ⟨IntKind.wrap .i64 (t19_ + 1), _, ⟨hD, h0, h1, h7, rfl, hP⟩, H⟩
   ·
    replace H := H.2 hc_
    clear hc_
    refine J_exit ?_
    exact (show F56_1 K X _ _ from ⟨_, hD, hP, H⟩)
  ·
   rintro e Mp ⟨M, hD, hP, H⟩
   unfold S56_1 at H
   refine J_seq ?_
   refine J_region (by decide) ?_
   refine JO_assign (v := .bool false) rfl ?_
   refine JO_nil ?_
   exact J_ret (kret (pan := X)  hD (fun _ _ hb => hP.sub hb) (resOk (rs := [.tmp 6]) (vs := [.bool false]) rfl ⟨item_tmp rfl, trivial⟩) ⟨false, rfl, H⟩)

/-! (*brazier/cas.Store).find -/
def S60_2 (a6_ : PA) (t21_ : Bool) (a3_ : PA) (a4_ : PA) (a5_ : PA) (t12_ : Value) (K : ByteArray → Bool → Bool → Sl → Sl → Bool → Mem → Prop) (X : List PanicEntry → Mem → Prop) (nx1 : Mem → Prop) (rt1 : Code → Mem → Prop) : Mem → Prop :=
 ite' t21_ (ldS (a6_.1, a6_.2) fun t22_0 => ldB (a6_.1, a6_.2 + 1) fun t22_1 => ldB (a6_.1, a6_.2 + 2) fun t22_2 => ldL (a6_.1, a6_.2 + 3) fun t22_3 => ldL (a6_.1, a6_.2 + 4) fun t22_4 => sts a4_ [.string t22_0, .bool t22_1, .bool t22_2, Sl.v t22_3, Sl.v t22_4] <| st a5_ (.bool true) <| rt1 .ret) (nx1)
def S60_1b (a3_ : PA) (a4_ : PA) (a5_ : PA) (t12_ : Value) (K : ByteArray → Bool → Bool → Sl → Sl → Bool → Mem → Prop) (X : List PanicEntry → Mem → Prop) (y21_0 : ByteArray) (y21_1 : Bool) (y21_2 : Bool) (y21_3 : Sl) (y21_4 : Sl) (nx1 : Mem → Prop) (rt1 : Code → Mem → Prop) : Mem → Prop :=
 new (.cells #[.string (⟨#[]⟩ : ByteArray), .bool false, .bool false, Sl.v (⟨none, 0, 0⟩ : Sl), Sl.v (⟨none, 0, 0⟩ : Sl)] 125 (0, 0)) fun b22 => sts (b22, 0) [.string y21_0, .bool y21_1, .bool y21_2, Sl.v y21_3, Sl.v y21_4] <| ldB (b22, 2) fun t15_24 => ite' t15_24 (ldL (b22, 3) fun t18_28 => ldL a3_ fun t19_30 => call 73 [Sl.v t18_28, Sl.v t19_30] (fun _ _ => False) fun v_ M => ∃ (r32 : Bool), v_ = .bool r32 ∧ ( S60_2 (b22, 0) r32 a3_ a4_ a5_ t12_ K X nx1 rt1) M) (S60_2 (b22, 0) false a3_ a4_ a5_ t12_ K X nx1 rt1)
def S60_1 (a3_ : PA) (a4_ : PA) (a5_ : PA) (t12_ : Value) (K : ByteArray → Bool → Bool → Sl → Sl → Bool → Mem → Prop) (X : List PanicEntry → Mem → Prop) : Mem → Prop :=
 rng t12_ 1 (fun args_ nx rt M => ∃ (y21_0 : ByteArray) (y21_1 : Bool) (y21_2 : Bool) (y21_3 : Sl) (y21_4 : Sl), args_ = [.agg #[.string y21_0, .bool y21_1, .bool y21_2, Sl.v y21_3, Sl.v y21_4]] ∧ S60_1b a3_ a4_ a5_ t12_ K X y21_0 y21_1 y21_2 y21_3 y21_4 nx rt M) (sts a4_ [.string (⟨#[]⟩ : ByteArray), .bool false, .bool false, Sl.v (⟨none, 0, 0⟩ : Sl), Sl.v (⟨none, 0, 0⟩ : Sl)] <| st a5_ (.bool false) <| ldS (a4_.1, a4_.2) fun z42 => ldB (a4_.1, a4_.2 + 1) fun z44 => ldB (a4_.1, a4_.2 + 2) fun z46 => ldL (a4_.1, a4_.2 + 3) fun z48 => ldL (a4_.1, a4_.2 + 4) fun z50 => ldB (a5_.1, a5_.2) fun z52 => K z42 z44 z46 z48 z50 z52) (fun c_ M => (c_ = .ret ∧ (ldS (a4_.1, a4_.2) fun z54 => ldB (a4_.1, a4_.2 + 1) fun z56 => ldB (a4_.1, a4_.2 + 2) fun z58 => ldL (a4_.1, a4_.2 + 3) fun z60 => ldL (a4_.1, a4_.2 + 4) fun z62 => ldB (a5_.1, a5_.2) fun z64 => K z54 z56 z58 z60 z62 z64) M))
def S60 (t0 : Option PA) (t1 : Sl) (K : ByteArray → Bool → Bool → Sl → Sl → Bool → Mem → Prop) (X : List PanicEntry → Mem → Prop) : Mem → Prop :=
 new (.cells #[Sl.v t1] 32 (0, 0)) fun b1 => new (.cells #[.string (⟨#[]⟩ : ByteArray), .bool false, .bool false, Sl.v (⟨none, 0, 0⟩ : Sl), Sl.v (⟨none, 0, 0⟩ : Sl)] 125 (0, 0)) fun b2 => new (.cells #[.bool false] 4 (0, 0)) fun b3 => ite' t0.isNone (sts (b2, 0) [.string (⟨#[]⟩ : ByteArray), .bool false, .bool false, Sl.v (⟨none, 0, 0⟩ : Sl), Sl.v (⟨none, 0, 0⟩ : Sl)] <| st (b3, 0) (.bool false) <| ldS (b2, 0) fun z6 => ldB (b2, 1) fun z8 => ldB (b2, 2) fun z10 => ldL (b2, 3) fun z12 => ldL (b2, 4) fun z14 => ldB (b3, 0) fun z16 => K z6 z8 z10 z12 z14 z16) (ldL (b1, 0) fun t11_18 => call 125 [ptr t0, Sl.v t11_18] X fun v_ M => ∃ (r20 : Value), v_ = r20 ∧ ( S60_1 (b1, 0) (b2, 0) (b3, 0) r20 K X) M)
abbrev F60_2 (a3_ : PA) (a4_ : PA) (a5_ : PA) (t12_ : Value) (K : ByteArray → Bool → Bool → Sl → Sl → Bool → Mem → Prop) (X : List PanicEntry → Mem → Prop) (nx1 : Mem → Prop) (rt1 : Code → Mem → Prop) (e : Env) (Mp : Mem) : Prop := ∃ (a6_ : PA) (t21_ : Bool) (M : Mem), e.D = [] ∧ e.v 4 = ptr (some a4_) ∧ e.v 5 = ptr (some a5_) ∧ e.v 6 = ptr (some a6_) ∧ e.v 21 = .bool t21_ ∧ Pv M [] Mp ∧ S60_2 a6_ t21_ a3_ a4_ a5_ t12_ K X nx1 rt1 M
abbrev F60_1 (K : ByteArray → Bool → Bool → Sl → Sl → Bool → Mem → Prop) (X : List PanicEntry → Mem → Prop) (e : Env) (Mp : Mem) : Prop := ∃ (a3_ : PA) (a4_ : PA) (a5_ : PA) (t12_ : Value) (M : Mem), e.D = [] ∧ e.v 3 = ptr (some a3_) ∧ e.v 4 = ptr (some a4_) ∧ e.v 5 = ptr (some a5_) ∧ e.v 12 = t12_ ∧ Pv M [] Mp ∧ S60_1 a3_ a4_ a5_ t12_ K X M
theorem br60 {t0 : Option PA} {t1 : Sl} {K : ByteArray → Bool → Bool → Sl → Sl → Bool → Mem → Prop} {X : List PanicEntry → Mem → Prop} {M : Mem} (H : S60 t0 t1 K X M) :
  Spec Tryz.prog 60 #[ptr t0, Sl.v t1] M (fun v_ M => ∃ (r0_0 : ByteArray) (r0_1 : Bool) (r0_2 : Bool) (r0_3 : Sl) (r0_4 : Sl) (r1 : Bool), v_ = .tuple #[.agg #[.string r0_0, .bool r0_1, .bool r0_2, Sl.v r0_3, Sl.v r0_4], .bool r1] ∧ K r0_0 r0_1 r0_2 r0_3 r0_4 r1 M) X := by
 refine spec_of_J (args := [ptr t0, Sl.v t1]) Tryz.func60 rfl Tryz.ntmps60 (Nat.le_of_ble_eq_true rfl) ?_
 have hD : (⟨fun i => ([ptr t0, Sl.v t1] : List Value).getD i undef, []⟩ : Env).D = [] := rfl
 have hP := Pv.nil M
 have hX := @kx_of Tryz.prog Tryz.f60 (fun v_ M => ∃ (r0_0 : ByteArray) (r0_1 : Bool) (r0_2 : Bool) (r0_3 : Sl) (r0_4 : Sl) (r1 : Bool), v_ = .tuple #[.agg #[.string r0_0, .bool r0_1, .bool r0_2, Sl.v r0_3, Sl.v r0_4], .bool r1] ∧ K r0_0 r0_1 r0_2 r0_3 r0_4 r1 M) X
 unfold S60 at H
 refine J_seq ?_
 refine J_region (by decide) ?_
 refine JO_box (v := Sl.v t1) rfl ?_
 intro b1 hb
 replace H := H b1 (hP.out hb).1
 replace hP := hP.new hb (.cells #[Sl.v t1] 32 (0, 0))
 refine JO_alloc (cs := [.string (⟨#[]⟩ : ByteArray), .bool false, .bool false, Sl.v (⟨none, 0, 0⟩ : Sl), Sl.v (⟨none, 0, 0⟩ : Sl)]) zc_125 ?_
 intro b2 hb
 replace H := H b2 (hP.out hb).1
 replace hP := hP.new hb (.cells #[.string (⟨#[]⟩ : ByteArray), .bool false, .bool false, Sl.v (⟨none, 0, 0⟩ : Sl), Sl.v (⟨none, 0, 0⟩ : Sl)] 125 (0, 0))
 refine JO_alloc (cs := [.bool false]) zc_4 ?_
 intro b3 hb
 replace H := H b3 (hP.out hb).1
 replace hP := hP.new hb (.cells #[.bool false] 4 (0, 0))
 refine JO_nil ?_
 refine J_seq ?_
 refine J_seq ?_
 refine J_region (by decide) ?_
 refine JO_move (v := ptr t0) rfl ?_
 refine JO_eqlNil (p := t0) ip_28 rfl rfl ?_
 refine JO_nil ?_
 refine J_cond (t := t0.isNone) rfl (fun hc_ => ?_) (fun hc_ => ?_)
 ·
  replace H := H.1 hc_
  clear hc_
  refine J_seq ?_
  refine J_region (by decide) ?_
  refine JO_bld (vs := []) (cs := [.string (⟨#[]⟩ : ByteArray), .bool false, .bool false, Sl.v (⟨none, 0, 0⟩ : Sl), Sl.v (⟨none, 0, 0⟩ : Sl)]) pl_125 zc_125 mpn rfl ?_
  obtain ⟨g4, H⟩ := H
  refine JO_storeAgg (p := (b2, 0)) (cs := [.string (⟨#[]⟩ : ByteArray), .bool false, .bool false, Sl.v (⟨none, 0, 0⟩ : Sl), Sl.v (⟨none, 0, 0⟩ : Sl)]) sz_125 rfl rfl (all_cons rfl (all_cons rfl (all_cons rfl (all_cons rfl (all_cons rfl all_nil))))) (hP.wrs g4) ?_
  replace hP := hP.stos [.string (⟨#[]⟩ : ByteArray), .bool false, .bool false, Sl.v (⟨none, 0, 0⟩ : Sl), Sl.v (⟨none, 0, 0⟩ : Sl)] g4
  obtain ⟨g5, H⟩ := H
  refine JO_store (p := (b3, 0)) (v := .bool false) sz_4 rfl rfl rfl (hP.wr g5) ?_
  replace hP := hP.sto g5 (.bool false)
  refine JO_nil ?_
  obtain ⟨z6, g7, H⟩ := H
  obtain ⟨z8, g9, H⟩ := H
  obtain ⟨z10, g11, H⟩ := H
  obtain ⟨z12, g13, H⟩ := H
  obtain ⟨z14, g15, H⟩ := H
  obtain ⟨z16, g17, H⟩ := H
  exact J_ret (kret (pan := X)  hD (fun _ _ hb => hP.sub hb) (resOk (rs := [.cell 4 125, .cell 5 4]) (vs := [.agg #[.string z6, .bool z8, .bool z10, Sl.v z12, Sl.v z14], .bool z16]) rfl ⟨item_cellAgg (p := (b2, 0)) (cs := [.string z6, .bool z8, .bool z10, Sl.v z12, Sl.v z14]) ag_125 (Nat.succ_pos _) rfl (cels_of (b := b2) (o := 0) ⟨hP.cel g7, hP.cel g9, hP.cel g11, hP.cel g13, hP.cel g15, trivial⟩), item_cell (p := (b3, 0)) na_4 rfl (hP.cel g17), trivial⟩) ⟨z6, z8, z10, z12, z14, z16, rfl, H⟩)
 ·
  replace H := H.2 hc_
  clear hc_
  refine J_skip ?_
  refine J_seq ?_
  refine J_seq ?_
  refine J_region (by decide) ?_
  refine JO_move (v := ptr t0) rfl ?_
  obtain ⟨t11_18, g19, H⟩ := H
  refine JO_load (p := (b1, 0)) (v := Sl.v t11_18) na_32 rfl (hP.cel g19) ?_
  refine JO_call Tryz.call125 (vs := [ptr t0, Sl.v t11_18]) (mc rfl (mc rfl mn)) ((hP.spec H).mono ?_ (fun ch Mp h => hX hD h))
  rintro r20 Mp ⟨M, hP, _, rfl, H⟩
  refine JO_nil ?_
  refine J_block ?_
  refine J_of (F60_1 K X) (show F60_1 K X _ _ from ⟨(b1, 0), (b2, 0), (b3, 0), r20, _, hD, rfl, rfl, rfl, rfl, hP, H⟩) ?_
  rintro e Mp ⟨a3_, a4_, a5_, t12_, M, hD, h3, h4, h5, h12, hP, H⟩
  unfold S60_1 at H
  refine J_forget (fun _ _ hb => hP.sub hb) ?_
  obtain ⟨f_, caps_, hf_, he_, H⟩ := H
  refine J_range (gf := f_) (caps := caps_) (h12.trans hf_) he_ (by decide) ?_
  intro y_ l_ oR_ oD_ hM_ law_
  refine (H y_ l_ oR_ oD_ hM_ ?_).mono ?_ (fun _ _ f => f)
  ·
   rintro args_ κ_ M hlen_ hl_ ⟨y21_0, y21_1, y21_2, y21_3, y21_4, rfl, hb_⟩ ro_
   refine law_ _ κ_ M hlen_ hl_ ?_ ro_
   obtain ⟨nx1, rt1, hn_1, hr_1, H⟩ : ∃ (nx : Mem → Prop) (rt : Code → Mem → Prop), (∀ M, M l_ = none → nx M → κ_ (.bool true) (M.upd l_ oR_)) ∧ (∀ c M, M l_ = none → rt c M → κ_ (.bool false) (M.upd l_ (oD_ c))) ∧ S60_1b a3_ a4_ a5_ t12_ K X y21_0 y21_1 y21_2 y21_3 y21_4 nx rt (M.del l_) := ⟨_, _, fun _ h0 h => h h0, fun _ _ h0 h => h h0, hb_⟩
   clear hb_ hlen_ hl_ hP
   generalize M.del l_ = M at H ⊢
   have hP := Pv.nil M
   have hD : ([] : List Deferred) = [] := rfl
   unfold S60_1b at H
   refine J_region (by decide) ?_
   refine JO_alloc (cs := [.string (⟨#[]⟩ : ByteArray), .bool false, .bool false, Sl.v (⟨none, 0, 0⟩ : Sl), Sl.v (⟨none, 0, 0⟩ : Sl)]) zc_125 ?_
   intro b22 hb
   replace H := H b22 (hP.out hb).1
   replace hP := hP.new hb (.cells #[.string (⟨#[]⟩ : ByteArray), .bool false, .bool false, Sl.v (⟨none, 0, 0⟩ : Sl), Sl.v (⟨none, 0, 0⟩ : Sl)] 125 (0, 0))
   obtain ⟨g23, H⟩ := H
   refine JO_storeAgg (p := (b22, 0)) (cs := [.string y21_0, .bool y21_1, .bool y21_2, Sl.v y21_3, Sl.v y21_4]) sz_125 rfl rfl (all_cons rfl (all_cons rfl (all_cons rfl (all_cons rfl (all_cons rfl all_nil))))) (hP.wrs g23) ?_
   replace hP := hP.stos [.string y21_0, .bool y21_1, .bool y21_2, Sl.v y21_3, Sl.v y21_4] g23
   refine JO_nil ?_
   refine kd_nx ?_
   refine J_block ?_
   refine J_seq ?_
   refine J_region (by decide) ?_
   refine JO_fieldAddr (p := (b22, 0)) fo_125_2 rfl ?_
   obtain ⟨t15_24, g25, H⟩ := H
   refine JO_load (p := (b22, 2)) (v := .bool t15_24) na_4 rfl (hP.cel g25) ?_
   refine JO_move (v := .bool t15_24) rfl ?_
   refine JO_cut 5 (F60_2 a3_ a4_ a5_ t12_ K X nx1 rt1) ?_ ?_
   ·
    obtain ⟨H1, H2⟩ := H
    obtain hc_ | hc_ := ff_or_tt t15_24
    ·
     replace H := H2 hc_
     clear H1 H2
     have hg26 := (congrArg Value.bool hc_ : Value.bool t15_24 = Value.bool false)
     refine JO_off (s := 16) (c := false) hg26 (by decide) ?_
     refine JO_off (s := 16) (c := false) hg26 (by decide) ?_
     refine JO_off (s := 16) (c := false) hg26 (by decide) ?_
     refine JO_off (s := 16) (c := false) hg26 (by decide) ?_
     refine JO_pick (b := false) (v := .bool false) hg26 rfl ?_
     refine JO_nil ?_
     exact (show F60_2 a3_ a4_ a5_ t12_ K X nx1 rt1 _ _ from ⟨(b22, 0), false, _, hD, h4, h5, rfl, rfl, hP, H⟩)
    ·
     replace H := H1 hc_
     clear H1 H2
     have hg27 := (congrArg Value.bool hc_ : Value.bool t15_24 = Value.bool true)
     refine JO_on (s := 16) hg27 ?_
     refine JO_fieldAddr (p := (b22, 0)) fo_125_3 rfl ?_
     refine JO_on (s := 16) hg27 ?_
     obtain ⟨t18_28, g29, H⟩ := H
     refine JO_load (p := (b22, 3)) (v := Sl.v t18_28) na_32 rfl (hP.cel g29) ?_
     refine JO_on (s := 16) hg27 ?_
     obtain ⟨t19_30, g31, H⟩ := H
     refine JO_load (p := a3_) (v := Sl.v t19_30) na_32 h3 (hP.cel g31) ?_
     refine JO_on (s := 16) hg27 ?_
     refine JO_call Tryz.call73 (vs := [Sl.v t18_28, Sl.v t19_30]) (mc rfl (mc rfl mn)) ((hP.spec H).mono ?_ (fun _ _ ⟨_, _, f⟩ => f.elim))
     rintro v Mp ⟨M, hP, r32, rfl, H⟩
     refine JO_pick (b := true) (v := .bool r32) hg27 rfl ?_
     refine JO_nil ?_
     exact (show F60_2 a3_ a4_ a5_ t12_ K X nx1 rt1 _ _ from ⟨(b22, 0), r32, _, hD, h4, h5, rfl, rfl, hP, H⟩)
   ·
    rintro e Mp ⟨a6_, t21_, M, hD, h4, h5, h6, h21, hP, H⟩
    unfold S60_2 at H
    refine JO_nil ?_
    refine J_cond (t := t21_) h21 (fun hc_ => ?_) (fun hc_ => ?_)
    ·
     replace H := H.1 hc_
     clear hc_
     refine J_seq ?_
     refine J_region (by decide) ?_
     obtain ⟨t22_0, g33, H⟩ := H
     obtain ⟨t22_1, g34, H⟩ := H
     obtain ⟨t22_2, g35, H⟩ := H
     obtain ⟨t22_3, g36, H⟩ := H
     obtain ⟨t22_4, g37, H⟩ := H
     refine JO_loadAgg (p := a6_) (cs := [.string t22_0, .bool t22_1, .bool t22_2, Sl.v t22_3, Sl.v t22_4]) ag_125 (Nat.succ_pos _) h6 (cels_of (b := a6_.1) (o := a6_.2) ⟨hP.cel g33, hP.cel g34, hP.cel g35, hP.cel g36, hP.cel g37, trivial⟩) ?_
     obtain ⟨g38, H⟩ := H
     refine JO_storeAgg (p := a4_) (cs := [.string t22_0, .bool t22_1, .bool t22_2, Sl.v t22_3, Sl.v t22_4]) sz_125 h4 rfl (all_cons rfl (all_cons rfl (all_cons rfl (all_cons rfl (all_cons rfl all_nil))))) (hP.wrs g38) ?_
     replace hP := hP.stos [.string t22_0, .bool t22_1, .bool t22_2, Sl.v t22_3, Sl.v t22_4] g38
     obtain ⟨g39, H⟩ := H
     refine JO_store (p := a5_) (v := .bool true) sz_4 h5 rfl rfl (hP.wr g39) ?_
     replace hP := hP.sto g39 (.bool true)
     refine JO_nil ?_
     exact J_ret (rb_ret (oR := oR_) (oD := oD_) (e := ⟨fun _ => undef, []⟩) fun hl_ => ⟨_, fun _ _ hb => hP.sub hb, hr_1 _ _ (sub_none (b := l_) (fun _ _ hb => hP.sub hb) hl_) H⟩)
    ·
     replace H := H.2 hc_
     clear hc_
     refine J_skip ?_
     exact rb_nx (oR := oR_) (oD := oD_) (e := ⟨fun _ => undef, []⟩) fun hl_ => ⟨_, fun _ _ hb => hP.sub hb, hn_1 _ (sub_none (b := l_) (fun _ _ hb => hP.sub hb) hl_) H⟩
  ·
   rintro _ M (⟨hl_, H⟩ | ⟨c_, hl_, H⟩)
   ·
    refine .inl ⟨hl_, ?_⟩
    clear hl_ hP
    generalize M.del l_ = M at H ⊢
    have hP := Pv.nil M
    refine J_seq ?_
    refine J_region (by decide) ?_
    refine JO_bld (vs := []) (cs := [.string (⟨#[]⟩ : ByteArray), .bool false, .bool false, Sl.v (⟨none, 0, 0⟩ : Sl), Sl.v (⟨none, 0, 0⟩ : Sl)]) pl_125 zc_125 mpn rfl ?_
    obtain ⟨g40, H⟩ := H
    refine JO_storeAgg (p := a4_) (cs := [.string (⟨#[]⟩ : ByteArray), .bool false, .bool false, Sl.v (⟨none, 0, 0⟩ : Sl), Sl.v (⟨none, 0, 0⟩ : Sl)]) sz_125 h4 rfl (all_cons rfl (all_cons rfl (all_cons rfl (all_cons rfl (all_cons rfl all_nil))))) (hP.wrs g40) ?_
    replace hP := hP.stos [.string (⟨#[]⟩ : ByteArray), .bool false, .bool false, Sl.v (⟨none, 0, 0⟩ : Sl), Sl.v (⟨none, 0, 0⟩ : Sl)] g40
    obtain ⟨g41, H⟩ := H
    refine JO_store (p := a5_) (v := .bool false) sz_4 h5 rfl rfl (hP.wr g41) ?_
    replace hP := hP.sto g41 (.bool false)
    refine JO_nil ?_
    obtain ⟨z42, g43, H⟩ := H
    obtain ⟨z44, g45, H⟩ := H
    obtain ⟨z46, g47, H⟩ := H
    obtain ⟨z48, g49, H⟩ := H
    obtain ⟨z50, g51, H⟩ := H
    obtain ⟨z52, g53, H⟩ := H
    exact J_ret (kret (pan := X)  hD (fun _ _ hb => hP.sub hb) (resOk (rs := [.cell 4 125, .cell 5 4]) (vs := [.agg #[.string z42, .bool z44, .bool z46, Sl.v z48, Sl.v z50], .bool z52]) rfl ⟨item_cellAgg (p := a4_) (cs := [.string z42, .bool z44, .bool z46, Sl.v z48, Sl.v z50]) ag_125 (Nat.succ_pos _) (by exact h4) (cels_of (b := a4_.1) (o := a4_.2) ⟨hP.cel g43, hP.cel g45, hP.cel g47, hP.cel g49, hP.cel g51, trivial⟩), item_cell (p := a5_) na_4 (by exact h5) (hP.cel g53), trivial⟩) ⟨z42, z44, z46, z48, z50, z52, rfl, H⟩)
   ·
    obtain ⟨rfl, H⟩ := H
    refine .inr ⟨_, hl_, ?_⟩
    clear hl_ hP
    generalize M.del l_ = M at H ⊢
    have hP := Pv.nil M
    obtain ⟨z54, g55, H⟩ := H
    obtain ⟨z56, g57, H⟩ := H
    obtain ⟨z58, g59, H⟩ := H
    obtain ⟨z60, g61, H⟩ := H
    obtain ⟨z62, g63, H⟩ := H
    obtain ⟨z64, g65, H⟩ := H
    exact J_ret (kret (pan := X)  hD (fun _ _ hb => hP.sub hb) (resOk (rs := [.cell 4 125, .cell 5 4]) (vs := [.agg #[.string z54, .bool z56, .bool z58, Sl.v z60, Sl.v z62], .bool z64]) rfl ⟨item_cellAgg (p := a4_) (cs := [.string z54, .bool z56, .bool z58, Sl.v z60, Sl.v z62]) ag_125 (Nat.succ_pos _) (by exact h4) (cels_of (b := a4_.1) (o := a4_.2) ⟨hP.cel g55, hP.cel g57, hP.cel g59, hP.cel g61, hP.cel g63, trivial⟩), item_cell (p := a5_) na_4 (by exact h5) (hP.cel g65), trivial⟩) ⟨z54, z56, z58, z60, z62, z64, rfl, H⟩)

/-! slices.Clone[[]byte,byte] -/
def S64 (t0 : Sl) (K : Sl → Mem → Prop) (X : List PanicEntry → Mem → Prop) : Mem → Prop :=
 ite' t0.a.isNone (K (⟨none, 0, 0⟩ : Sl)) (new (.cells #[] 5 (0, 0)) fun b1 => appS 5 1 1 [.int .u8 0] (⟨some (b1, 0), 0, 0⟩ : Sl) t0 fun x2 => K x2)
theorem br64 {t0 : Sl} {K : Sl → Mem → Prop} {X : List PanicEntry → Mem → Prop} {M : Mem} (H : S64 t0 K X M) :
  Spec Tryz.prog 64 #[Sl.v t0] M (fun v_ M => ∃ (r0 : Sl), v_ = Sl.v r0 ∧ K r0 M) X := by
 refine spec_of_J (args := [Sl.v t0]) Tryz.func64 rfl Tryz.ntmps64 (Nat.le_of_ble_eq_true rfl) ?_
 have hD : (⟨fun i => ([Sl.v t0] : List Value).getD i undef, []⟩ : Env).D = [] := rfl
 have hP := Pv.nil M
 have hX := @kx_of Tryz.prog Tryz.f64 (fun v_ M => ∃ (r0 : Sl), v_ = Sl.v r0 ∧ K r0 M) X
 unfold S64 at H
 refine J_seq ?_
 refine J_region (by decide) ?_
 refine JO_assign (v := Sl.v (⟨none, 0, 0⟩ : Sl)) rfl ?_
 refine JO_nil ?_
 refine J_seq ?_
 refine J_seq ?_
 refine J_region (by decide) ?_
 refine JO_move (v := Sl.v t0) rfl ?_
 refine JO_eqlNilSl (s := t0) is_32 rfl rfl ?_
 refine JO_nil ?_
 refine J_cond (t := t0.a.isNone) rfl (fun hc_ => ?_) (fun hc_ => ?_)
 ·
  replace H := H.1 hc_
  clear hc_
  refine J_seq ?_
  refine J_region (by decide) ?_
  refine JO_assign (v := Sl.v (⟨none, 0, 0⟩ : Sl)) rfl ?_
  refine JO_nil ?_
  exact J_ret (kret (pan := X)  hD (fun _ _ hb => hP.sub hb) (resOk (rs := [.tmp 2]) (vs := [Sl.v (⟨none, 0, 0⟩ : Sl)]) rfl ⟨item_tmp rfl, trivial⟩) ⟨(⟨none, 0, 0⟩ : Sl), rfl, H⟩)
 ·
  replace H := H.2 hc_
  clear hc_
  refine J_skip ?_
  refine J_seq ?_
  refine J_region (by decide) ?_
  refine JO_bsl0 ul_32 sz_5 ?_
  intro b1 hb
  replace H := H b1 (hP.out hb).1
  replace hP := hP.new hb (.cells #[] 5 (0, 0))
  refine JO_move (v := Sl.v t0) rfl ?_
  refine JO_loud ((hP.opJ (OpJ_app (s := (⟨some (b1, 0), 0, 0⟩ : Sl)) (z := t0) ul_32 sb_5 zc_5 rfl rfl H)).mono (fun _ _ h => h) (fun _ _ ⟨_, _, f⟩ => f.elim)) ?_
  rintro _ Mp ⟨M, hP, x2, rfl, H⟩
  refine JO_assign (v := Sl.v x2) rfl ?_
  refine JO_nil ?_
  exact J_ret (kret (pan := X)  hD (fun _ _ hb => hP.sub hb) (resOk (rs := [.tmp 2]) (vs := [Sl.v x2]) rfl ⟨item_tmp rfl, trivial⟩) ⟨x2, rfl, H⟩)

/-! bytes.Equal -/
def S73 (t0 : Sl) (t1 : Sl) (K : Bool → Mem → Prop) (X : List PanicEntry → Mem → Prop) : Mem → Prop :=
 b2s t0 fun x1 => b2s t1 fun x4 => K (seq x1 x4)
theorem br73 {t0 : Sl} {t1 : Sl} {K : Bool → Mem → Prop} {X : List PanicEntry → Mem → Prop} {M : Mem} (H : S73 t0 t1 K X M) :
  Spec Tryz.prog 73 #[Sl.v t0, Sl.v t1] M (fun v_ M => ∃ (r0 : Bool), v_ = .bool r0 ∧ K r0 M) X := by
 refine spec_of_J (args := [Sl.v t0, Sl.v t1]) Tryz.func73 rfl Tryz.ntmps73 (Nat.le_of_ble_eq_true rfl) ?_
 have hD : (⟨fun i => ([Sl.v t0, Sl.v t1] : List Value).getD i undef, []⟩ : Env).D = [] := rfl
 have hP := Pv.nil M
 have hX := @kx_of Tryz.prog Tryz.f73 (fun v_ M => ∃ (r0 : Bool), v_ = .bool r0 ∧ K r0 M) X
 unfold S73 at H
 refine J_seq ?_
 refine J_region (by decide) ?_
 refine JO_assign (v := .bool false) rfl ?_
 refine JO_nil ?_
 refine J_seq ?_
 refine J_region (by decide) ?_
 refine JO_move (v := Sl.v t0) rfl ?_
 obtain ⟨x1, g2, g3, H⟩ := H
 refine JO_b2s (s := t0) (b := x1) ul_32 ul_5 ul_9 rfl (hP.rdc g2) g3 ?_
 refine JO_move (v := Sl.v t1) rfl ?_
 obtain ⟨x4, g5, g6, H⟩ := H
 refine JO_b2s (s := t1) (b := x4) ul_32 ul_5 ul_9 rfl (hP.rdc g5) g6 ?_
 refine JO_scmp (op := .eql) (a := x1) (b := x4) (v := .bool (seq x1 x4)) rfl rfl rfl ?_
 refine JO_assign (v := .bool (seq x1 x4)) rfl ?_
 refine JO_nil ?_
 exact J_ret (kret (pan := X)  hD (fun _ _ hb => hP.sub hb) (resOk (rs := [.tmp 4]) (vs := [.bool (seq x1 x4)]) rfl ⟨item_tmp rfl, trivial⟩) ⟨seq x1 x4, rfl, H⟩)

/-! brazier/cas.FileOf -/
def S119_4 (t6_ : ByteArray) (K : ByteArray → Mem → Prop) (X : List PanicEntry → Mem → Prop) : Mem → Prop :=
 K t6_
def S119_3 (t0_ : Sl) (t1_ : Int) (t2_ : Int) (t20_ : Bool) (K : ByteArray → Mem → Prop) (X : List PanicEntry → Mem → Prop) : Mem → Prop :=
 ite' t20_ (K (⟨#[]⟩ : ByteArray)) (both (callK 195 [Sl.v t0_] fun v_ M => ∃ (r7 : ByteArray), v_ = .string r7 ∧ ( must (0 ≤ (0 : Int) ∧ (0 : Int) ≤ t1_ ∧ t1_ ≤ (r7.size : Int)) <| must ((⟨#[99, 45]⟩ : ByteArray).size + (r7.extract (0 : Int).toNat t1_.toNat).size ≤ 9223372036854775807) <| must (((⟨#[99, 45]⟩ : ByteArray) ++ (r7.extract (0 : Int).toNat t1_.toNat)).size + (⟨#[45]⟩ : ByteArray).size ≤ 9223372036854775807) <| new (.cells #[.int .u8 (IntKind.wrap .u8 (48 + (IntKind.wrap .u8 t2_)))] 5 (0, 0)) fun b11 => b2s (⟨some (b11, 0), 1, 1⟩ : Sl) fun x12 => must ((((⟨#[99, 45]⟩ : ByteArray) ++ (r7.extract (0 : Int).toNat t1_.toNat)) ++ (⟨#[45]⟩ : ByteArray)).size + x12.size ≤ 9223372036854775807) <| S119_4 ((((⟨#[99, 45]⟩ : ByteArray) ++ (r7.extract (0 : Int).toNat t1_.toNat)) ++ (⟨#[45]⟩ : ByteArray)) ++ x12) K X) M) (new (.cells #[.int .u8 (IntKind.wrap .u8 (48 + (IntKind.wrap .u8 t2_)))] 5 (0, 0)) fun b16 => b2s (⟨some (b16, 0), 1, 1⟩ : Sl) fun x17 => callK 195 [Sl.v t0_] fun v_ M => ∃ (r20 : ByteArray), v_ = .string r20 ∧ ( must (0 ≤ (0 : Int) ∧ (0 : Int) ≤ t1_ ∧ t1_ ≤ (r20.size : Int)) <| must ((⟨#[99, 45]⟩ : ByteArray).size + (r20.extract (0 : Int).toNat t1_.toNat).size ≤ 9223372036854775807) <| must (((⟨#[99, 45]⟩ : ByteArray) ++ (r20.extract (0 : Int).toNat t1_.toNat)).size + (⟨#[45]⟩ : ByteArray).size ≤ 9223372036854775807) <| must ((((⟨#[99, 45]⟩ : ByteArray) ++ (r20.extract (0 : Int).toNat t1_.toNat)) ++ (⟨#[45]⟩ : ByteArray)).size + x17.size ≤ 9223372036854775807) <| S119_4 ((((⟨#[99, 45]⟩ : ByteArray) ++ (r20.extract (0 : Int).toNat t1_.toNat)) ++ (⟨#[45]⟩ : ByteArray)) ++ x17) K X) M))
def S119_2 (t0_ : Sl) (t1_ : Int) (t2_ : Int) (t16_ : Bool) (K : ByteArray → Mem → Prop) (X : List PanicEntry → Mem → Prop) : Mem → Prop :=
 ite' t16_ (S119_3 t0_ t1_ t2_ true K X) (S119_3 t0_ t1_ t2_ (decide (t2_ ≥ 8)) K X)
def S119_1 (t0_ : Sl) (t1_ : Int) (t2_ : Int) (t12_ : Bool) (K : ByteArray → Mem → Prop) (X : List PanicEntry → Mem → Prop) : Mem → Prop :=
 ite' t12_ (S119_2 t0_ t1_ t2_ true K X) (S119_2 t0_ t1_ t2_ (decide (t2_ < 0)) K X)
def S119 (t0 : Sl) (t1 : Int) (t2 : Int) (K : ByteArray → Mem → Prop) (X : List PanicEntry → Mem → Prop) : Mem → Prop :=
 ite' (decide (t1 < 0)) (S119_1 t0 t1 t2 true K X) (S119_1 t0 t1 t2 (decide (t1 > 64)) K X)
abbrev F119_4 (K : ByteArray → Mem → Prop) (X : List PanicEntry → Mem → Prop) (e : Env) (Mp : Mem) : Prop := ∃ (t6_ : ByteArray) (M : Mem), e.D = [] ∧ e.v 6 = .string t6_ ∧ Pv M [] Mp ∧ S119_4 t6_ K X M
abbrev F119_3 (K : ByteArray → Mem → Prop) (X : List PanicEntry → Mem → Prop) (e : Env) (Mp : Mem) : Prop := ∃ (t0_ : Sl) (t1_ : Int) (t2_ : Int) (t20_ : Bool) (M : Mem), e.D = [] ∧ e.v 0 = Sl.v t0_ ∧ e.v 1 = .int .i64 t1_ ∧ e.v 2 = .int .i64 t2_ ∧ e.v 20 = .bool t20_ ∧ Pv M [] Mp ∧ S119_3 t0_ t1_ t2_ t20_ K X M
abbrev F119_2 (K : ByteArray → Mem → Prop) (X : List PanicEntry → Mem → Prop) (e : Env) (Mp : Mem) : Prop := ∃ (t0_ : Sl) (t1_ : Int) (t2_ : Int) (t16_ : Bool) (M : Mem), e.D = [] ∧ e.v 0 = Sl.v t0_ ∧ e.v 1 = .int .i64 t1_ ∧ e.v 2 = .int .i64 t2_ ∧ e.v 16 = .bool t16_ ∧ Pv M [] Mp ∧ S119_2 t0_ t1_ t2_ t16_ K X M
abbrev F119_1 (K : ByteArray → Mem → Prop) (X : List PanicEntry → Mem → Prop) (e : Env) (Mp : Mem) : Prop := ∃ (t0_ : Sl) (t1_ : Int) (t2_ : Int) (t12_ : Bool) (M : Mem), e.D = [] ∧ e.v 0 = Sl.v t0_ ∧ e.v 1 = .int .i64 t1_ ∧ e.v 2 = .int .i64 t2_ ∧ e.v 12 = .bool t12_ ∧ Pv M [] Mp ∧ S119_1 t0_ t1_ t2_ t12_ K X M
theorem br119 {t0 : Sl} {t1 : Int} {t2 : Int} {K : ByteArray → Mem → Prop} {X : List PanicEntry → Mem → Prop} {M : Mem} (H : S119 t0 t1 t2 K X M) :
  Spec Tryz.prog 119 #[Sl.v t0, .int .i64 t1, .int .i64 t2] M (fun v_ M => ∃ (r0 : ByteArray), v_ = .string r0 ∧ K r0 M) X := by
 refine spec_of_J (args := [Sl.v t0, .int .i64 t1, .int .i64 t2]) Tryz.func119 rfl Tryz.ntmps119 (Nat.le_of_ble_eq_true rfl) ?_
 have hD : (⟨fun i => ([Sl.v t0, .int .i64 t1, .int .i64 t2] : List Value).getD i undef, []⟩ : Env).D = [] := rfl
 have hP := Pv.nil M
 have hX := @kx_of Tryz.prog Tryz.f119 (fun v_ M => ∃ (r0 : ByteArray), v_ = .string r0 ∧ K r0 M) X
 unfold S119 at H
 refine J_seq ?_
 refine J_region (by decide) ?_
 refine JO_assign (v := .string (⟨#[]⟩ : ByteArray)) rfl ?_
 refine JO_nil ?_
 refine J_seq ?_
 refine J_seq ?_
 refine J_region (by decide) ?_
 refine JO_move (v := .int .i64 t1) rfl ?_
 refine JO_iop (op := .lss) (k := .i64) (a := t1) (b := 0) rfl rfl trivial ?_
 refine JO_move (v := .bool (decide (t1 < 0))) rfl ?_
 refine JO_cut 3 (F119_1 K X) ?_ ?_
 ·
  obtain ⟨H1, H2⟩ := H
  obtain hc_ | hc_ := ff_or_tt (decide (t1 < 0))
  ·
   replace H := H2 hc_
   clear H1 H2
   have hg1 := (congrArg Value.bool hc_ : Value.bool (decide (t1 < 0)) = Value.bool false)
   refine JO_on (s := 9) hg1 ?_
   refine JO_move (v := .int .i64 t1) rfl ?_
   refine JO_on (s := 9) hg1 ?_
   refine JO_iop (op := .gtr) (k := .i64) (a := t1) (b := 64) rfl rfl trivial ?_
   refine JO_pick (b := false) (v := .bool (decide (t1 > 64))) hg1 rfl ?_
   refine JO_nil ?_
   exact (show F119_1 K X _ _ from ⟨t0, t1, t2, decide (t1 > 64), _, hD, rfl, rfl, rfl, rfl, hP, H⟩)
  ·
   replace H := H1 hc_
   clear H1 H2
   have hg2 := (congrArg Value.bool hc_ : Value.bool (decide (t1 < 0)) = Value.bool true)
   refine JO_off (s := 9) (c := true) hg2 (by decide) ?_
   refine JO_off (s := 9) (c := true) hg2 (by decide) ?_
   refine JO_pick (b := true) (v := .bool true) hg2 rfl ?_
   refine JO_nil ?_
   exact (show F119_1 K X _ _ from ⟨t0, t1, t2, true, _, hD, rfl, rfl, rfl, rfl, hP, H⟩)
 ·
  rintro e Mp ⟨t0_, t1_, t2_, t12_, M, hD, h0, h1, h2, h12, hP, H⟩
  unfold S119_1 at H
  refine JO_move (v := .bool t12_) h12 ?_
  refine JO_cut 3 (F119_2 K X) ?_ ?_
  ·
   obtain ⟨H1, H2⟩ := H
   obtain hc_ | hc_ := ff_or_tt t12_
   ·
    replace H := H2 hc_
    clear H1 H2
    have hg3 := (congrArg Value.bool hc_ : Value.bool t12_ = Value.bool false)
    refine JO_on (s := 13) hg3 ?_
    refine JO_move (v := .int .i64 t2_) h2 ?_
    refine JO_on (s := 13) hg3 ?_
    refine JO_iop (op := .lss) (k := .i64) (a := t2_) (b := 0) rfl rfl trivial ?_
    refine JO_pick (b := false) (v := .bool (decide (t2_ < 0))) hg3 rfl ?_
    refine JO_nil ?_
    exact (show F119_2 K X _ _ from ⟨t0_, t1_, t2_, decide (t2_ < 0), _, hD, h0, h1, h2, rfl, hP, H⟩)
   ·
    replace H := H1 hc_
    clear H1 H2
    have hg4 := (congrArg Value.bool hc_ : Value.bool t12_ = Value.bool true)
    refine JO_off (s := 13) (c := true) hg4 (by decide) ?_
    refine JO_off (s := 13) (c := true) hg4 (by decide) ?_
    refine JO_pick (b := true) (v := .bool true) hg4 rfl ?_
    refine JO_nil ?_
    exact (show F119_2 K X _ _ from ⟨t0_, t1_, t2_, true, _, hD, h0, h1, h2, rfl, hP, H⟩)
  ·
   rintro e Mp ⟨t0_, t1_, t2_, t16_, M, hD, h0, h1, h2, h16, hP, H⟩
   unfold S119_2 at H
   refine JO_move (v := .bool t16_) h16 ?_
   refine JO_cut 3 (F119_3 K X) ?_ ?_
   ·
    obtain ⟨H1, H2⟩ := H
    obtain hc_ | hc_ := ff_or_tt t16_
    ·
     replace H := H2 hc_
     clear H1 H2
     have hg5 := (congrArg Value.bool hc_ : Value.bool t16_ = Value.bool false)
     refine JO_on (s := 17) hg5 ?_
     refine JO_move (v := .int .i64 t2_) h2 ?_
     refine JO_on (s := 17) hg5 ?_
     refine JO_iop (op := .geq) (k := .i64) (a := t2_) (b := 8) rfl rfl trivial ?_
     refine JO_pick (b := false) (v := .bool (decide (t2_ ≥ 8))) hg5 rfl ?_
     refine JO_nil ?_
     exact (show F119_3 K X _ _ from ⟨t0_, t1_, t2_, decide (t2_ ≥ 8), _, hD, h0, h1, h2, rfl, hP, H⟩)
    ·
     replace H := H1 hc_
     clear H1 H2
     have hg6 := (congrArg Value.bool hc_ : Value.bool t16_ = Value.bool true)
     refine JO_off (s := 17) (c := true) hg6 (by decide) ?_
     refine JO_off (s := 17) (c := true) hg6 (by decide) ?_
     refine JO_pick (b := true) (v := .bool true) hg6 rfl ?_
     refine JO_nil ?_
     exact (show F119_3 K X _ _ from ⟨t0_, t1_, t2_, true, _, hD, h0, h1, h2, rfl, hP, H⟩)
   ·
    rintro e Mp ⟨t0_, t1_, t2_, t20_, M, hD, h0, h1, h2, h20, hP, H⟩
    unfold S119_3 at H
    refine JO_nil ?_
    refine J_cond (t := t20_) h20 (fun hc_ => ?_) (fun hc_ => ?_)
    ·
     replace H := H.1 hc_
     clear hc_
     refine J_seq ?_
     refine J_region (by decide) ?_
     refine JO_assign (v := .string (⟨#[]⟩ : ByteArray)) rfl ?_
     refine JO_nil ?_
     exact J_ret (kret (pan := X)  hD (fun _ _ hb => hP.sub hb) (resOk (rs := [.tmp 6]) (vs := [.string (⟨#[]⟩ : ByteArray)]) rfl ⟨item_tmp rfl, trivial⟩) ⟨(⟨#[]⟩ : ByteArray), rfl, H⟩)
    ·
     replace H := H.2 hc_
     clear hc_
     refine J_skip ?_
     refine J_seq ?_
     refine J_mid (F119_4 K X) ?_ ?_
     ·
      refine J_draw [0, 4, 0, 0, 0, 0, 0, 0, 0, 2, 1, 0, 0] (.cho 0 (.cho 2 (.cho 6 (.cho 7 (.cho 8 (.cho 1 (.cho 3 (.cho 4 (.cho 5 (.cho 9 (.cho 10 (.cho 11 (.cho 12 .done .none) .none) .none) .none) .none) .none) .none) (.cho 9 (.cho 10 (.cho 1 (.cho 3 (.cho 4 (.cho 5 (.cho 11 (.cho 12 .done .none) .none) .none) .none) .none) .none) .none) .none)) .none) .none) .none) .none) .none) rfl (by kernel_rfl) ?_
      refine JE_one ?_
      refine ST0 (fun _ h => by cases h) (fun w => OV_move (v := Sl.v t0_) (by exact h0) w) ?_
      refine JE_one ?_
      refine ST0 (fun _ h => by cases h) (fun w => OV_move (v := .int .i64 t1_) (by exact h1) w) ?_
      refine JE_one ?_
      refine ST0 (fun _ h => by cases h) (fun w => OV_move (v := .int .i64 t2_) (by exact h2) w) ?_
      refine JE_one ?_
      refine ST0 (fun _ h => by cases h) (fun w => OV_convI (k := .i64) (k' := .u8) (n := t2_) ul_5 (tt := .int .i64) ul_3 rfl w) ?_
      refine JE_one ?_
      refine ST0 (fun _ h => by cases h) (fun w => OV_iop (op := .add) (k := .u8) (a := 48) (b := IntKind.wrap .u8 t2_) rfl rfl trivial w) ?_
      obtain ⟨H0_, H⟩ := H
      refine JE_cho ?_ ?_
      ·
       replace H := H0_
       refine ST4 ?_
       refine JO_call Tryz.call195 (vs := [Sl.v t0_]) (mc rfl mn) ((hP.specK H).mono ?_ (fun _ _ ⟨_, _, f⟩ => f.elim))
       rintro rv_ Mp ⟨M, hP', hk_, r7, rfl, H⟩
       refine Kd_nil ?_
       refine And.intro hk_ ?_
       replace hP := hP'
       refine JE_one ?_
       obtain ⟨g8, H⟩ := H
       refine ST0 (fun _ h => by cases h) (fun w => OV_sslice (s := r7) (l := (0 : Int)) (h := t1_) ul_9 rfl (by exact ⟨_, rfl⟩) (by exact rfl) g8.1 g8.2.1 g8.2.2 w) ?_
       refine JE_one ?_
       obtain ⟨g9, H⟩ := H
       refine ST0 (fun _ h => by cases h) (fun w => OV_sadd (a := (⟨#[99, 45]⟩ : ByteArray)) (b := r7.extract (0 : Int).toNat t1_.toNat) rfl rfl g9 w) ?_
       refine JE_one ?_
       obtain ⟨g10, H⟩ := H
       refine ST0 (fun _ h => by cases h) (fun w => OV_sadd (a := (⟨#[99, 45]⟩ : ByteArray) ++ (r7.extract (0 : Int).toNat t1_.toNat)) (b := (⟨#[45]⟩ : ByteArray)) rfl rfl g10 w) ?_
       refine JE_one ?_
       refine ST2 (val := fun b => Sl.v ⟨some (b, 0), 1, 1⟩) (fun _ h => by cases h) (fun w => OA_bsl (vs := [(0, .int .u8 (IntKind.wrap .u8 (48 + (IntKind.wrap .u8 t2_))))]) (cs := [.int .u8 (IntKind.wrap .u8 (48 + (IntKind.wrap .u8 t2_)))]) (c0 := [.int .u8 0]) ul_32 sz_5 zc_5 (by kernel_rfl) (by decide) (by decide) (mpc rfl mpn) rfl w) ?_
       intro b11 hb
       replace H := H b11 (hP.out hb).1
       replace hP := hP.new hb (.cells #[.int .u8 (IntKind.wrap .u8 (48 + (IntKind.wrap .u8 t2_)))] 5 (0, 0))
       refine JE_one ?_
       obtain ⟨x12, g13, g14, H⟩ := H
       refine ST1 (fun _ h => by cases h) (fun w hs => OV_b2s (s := (⟨some (b11, 0), 1, 1⟩ : Sl)) (b := x12) ul_32 ul_5 ul_9 rfl (hP.rdc g13) g14 w hs) ?_
       refine JE_one ?_
       obtain ⟨g15, H⟩ := H
       refine ST0 (fun _ h => by cases h) (fun w => OV_sadd (a := ((⟨#[99, 45]⟩ : ByteArray) ++ (r7.extract (0 : Int).toNat t1_.toNat)) ++ (⟨#[45]⟩ : ByteArray)) (b := x12) rfl rfl g15 w) ?_
       refine JE_one ?_
       refine ST0 (fun _ h => by cases h) (fun w => OV_assign (v := .string ((((⟨#[99, 45]⟩ : ByteArray) ++ (r7.extract (0 : Int).toNat t1_.toNat)) ++ (⟨#[45]⟩ : ByteArray)) ++ x12)) rfl w) ?_
       refine JE_done ?_
       exact (show F119_4 K X _ _ from ⟨(((⟨#[99, 45]⟩ : ByteArray) ++ (r7.extract (0 : Int).toNat t1_.toNat)) ++ (⟨#[45]⟩ : ByteArray)) ++ x12, _, hD, rfl, hP, H⟩)
      refine JE_one ?_
      refine ST2 (val := fun b => Sl.v ⟨some (b, 0), 1, 1⟩) (fun _ h => by cases h) (fun w => OA_bsl (vs := [(0, .int .u8 (IntKind.wrap .u8 (48 + (IntKind.wrap .u8 t2_))))]) (cs := [.int .u8 (IntKind.wrap .u8 (48 + (IntKind.wrap .u8 t2_)))]) (c0 := [.int .u8 0]) ul_32 sz_5 zc_5 (by kernel_rfl) (by decide) (by decide) (mpc rfl mpn) rfl w) ?_
      intro b16 hb
      replace H := H b16 (hP.out hb).1
      replace hP := hP.new hb (.cells #[.int .u8 (IntKind.wrap .u8 (48 + (IntKind.wrap .u8 t2_)))] 5 (0, 0))
      refine JE_one ?_
      obtain ⟨x17, g18, g19, H⟩ := H
      refine ST1 (fun _ h => by cases h) (fun w hs => OV_b2s (s := (⟨some (b16, 0), 1, 1⟩ : Sl)) (b := x17) ul_32 ul_5 ul_9 rfl (hP.rdc g18) g19 w hs) ?_
      refine JE_one ?_
      refine ST4 ?_
      refine JO_call Tryz.call195 (vs := [Sl.v t0_]) (mc rfl mn) ((hP.specK H).mono ?_ (fun _ _ ⟨_, _, f⟩ => f.elim))
      rintro rv_ Mp ⟨M, hP', hk_, r20, rfl, H⟩
      refine Kd_nil ?_
      refine And.intro hk_ ?_
      replace hP := hP'
      refine JE_one ?_
      obtain ⟨g21, H⟩ := H
      refine ST0 (fun _ h => by cases h) (fun w => OV_sslice (s := r20) (l := (0 : Int)) (h := t1_) ul_9 rfl (by exact ⟨_, rfl⟩) (by exact rfl) g21.1 g21.2.1 g21.2.2 w) ?_
      refine JE_one ?_
      obtain ⟨g22, H⟩ := H
      refine ST0 (fun _ h => by cases h) (fun w => OV_sadd (a := (⟨#[99, 45]⟩ : ByteArray)) (b := r20.extract (0 : Int).toNat t1_.toNat) rfl rfl g22 w) ?_
      refine JE_one ?_
      obtain ⟨g23, H⟩ := H
      refine ST0 (fun _ h => by cases h) (fun w => OV_sadd (a := (⟨#[99, 45]⟩ : ByteArray) ++ (r20.extract (0 : Int).toNat t1_.toNat)) (b := (⟨#[45]⟩ : ByteArray)) rfl rfl g23 w) ?_
      refine JE_one ?_
      obtain ⟨g24, H⟩ := H
      refine ST0 (fun _ h => by cases h) (fun w => OV_sadd (a := ((⟨#[99, 45]⟩ : ByteArray) ++ (r20.extract (0 : Int).toNat t1_.toNat)) ++ (⟨#[45]⟩ : ByteArray)) (b := x17) rfl rfl g24 w) ?_
      refine JE_one ?_
      refine ST0 (fun _ h => by cases h) (fun w => OV_assign (v := .string ((((⟨#[99, 45]⟩ : ByteArray) ++ (r20.extract (0 : Int).toNat t1_.toNat)) ++ (⟨#[45]⟩ : ByteArray)) ++ x17)) rfl w) ?_
      refine JE_done ?_
      exact (show F119_4 K X _ _ from ⟨(((⟨#[99, 45]⟩ : ByteArray) ++ (r20.extract (0 : Int).toNat t1_.toNat)) ++ (⟨#[45]⟩ : ByteArray)) ++ x17, _, hD, rfl, hP, H⟩)
     ·
      rintro e Mp ⟨t6_, M, hD, h6, hP, H⟩
      unfold S119_4 at H
      exact J_ret (kret (pan := X)  hD (fun _ _ hb => hP.sub hb) (resOk (rs := [.tmp 6]) (vs := [.string t6_]) rfl ⟨item_tmp (by exact h6), trivial⟩) ⟨t6_, rfl, H⟩)

/-! brazier/wal.Frame -/
def S123 (t0 : Sl) (K : Sl → Int → Mem → Prop) (X : List PanicEntry → Mem → Prop) : Mem → Prop :=
 ite' (decide ((t0.n : Int) > 65536)) (K (⟨none, 0, 0⟩ : Sl) 2) (call 200 [Sl.v (⟨none, 0, 0⟩ : Sl), .int .i32 (IntKind.wrap .i32 (t0.n : Int))] X fun v_ M => ∃ (r1 : Sl), v_ = Sl.v r1 ∧ ( appS 5 1 1 [.int .u8 0] r1 t0 fun x2 => call 201 [Sl.v x2] X fun v_ M => ∃ (r3 : Int), v_ = .int .u32 r3 ∧ ( call 200 [Sl.v x2, .int .i32 (IntKind.wrap .i32 r3)] X fun v_ M => ∃ (r4 : Sl), v_ = Sl.v r4 ∧ ( K r4 0) M) M) M)
theorem br123 {t0 : Sl} {K : Sl → Int → Mem → Prop} {X : List PanicEntry → Mem → Prop} {M : Mem} (H : S123 t0 K X M) :
  Spec Tryz.prog 123 #[Sl.v t0] M (fun v_ M => ∃ (r0 : Sl) (r1 : Int), v_ = .tuple #[Sl.v r0, .int .i64 r1] ∧ K r0 r1 M) X := by
 refine spec_of_J (args := [Sl.v t0]) Tryz.func123 rfl Tryz.ntmps123 (Nat.le_of_ble_eq_true rfl) ?_
 have hD : (⟨fun i => ([Sl.v t0] : List Value).getD i undef, []⟩ : Env).D = [] := rfl
 have hP := Pv.nil M
 have hX := @kx_of Tryz.prog Tryz.f123 (fun v_ M => ∃ (r0 : Sl) (r1 : Int), v_ = .tuple #[Sl.v r0, .int .i64 r1] ∧ K r0 r1 M) X
 unfold S123 at H
 refine J_seq ?_
 refine J_region (by decide) ?_
 refine JO_assign (v := Sl.v (⟨none, 0, 0⟩ : Sl)) rfl ?_
 refine JO_assign (v := .int .i64 0) rfl ?_
 refine JO_nil ?_
 refine J_seq ?_
 refine J_seq ?_
 refine J_region (by decide) ?_
 refine JO_move (v := Sl.v t0) rfl ?_
 refine JO_len (s := t0) is_32 rfl ?_
 refine JO_iop (op := .gtr) (k := .i64) (a := (t0.n : Int)) (b := 65536) rfl rfl trivial ?_
 refine JO_nil ?_
 refine J_cond (t := decide ((t0.n : Int) > 65536)) rfl (fun hc_ => ?_) (fun hc_ => ?_)
 ·
  replace H := H.1 hc_
  clear hc_
  refine J_seq ?_
  refine J_region (by decide) ?_
  refine JO_assign (v := Sl.v (⟨none, 0, 0⟩ : Sl)) rfl ?_
  refine JO_assign (v := .int .i64 2) rfl ?_
  refine JO_nil ?_
  exact J_ret (kret (pan := X)  hD (fun _ _ hb => hP.sub hb) (resOk (rs := [.tmp 2, .tmp 3]) (vs := [Sl.v (⟨none, 0, 0⟩ : Sl), .int .i64 2]) rfl ⟨item_tmp rfl, item_tmp rfl, trivial⟩) ⟨(⟨none, 0, 0⟩ : Sl), 2, rfl, H⟩)
 ·
  replace H := H.2 hc_
  clear hc_
  refine J_skip ?_
  refine J_seq ?_
  refine J_region (by decide) ?_
  refine JO_move (v := Sl.v t0) rfl ?_
  refine JO_len (s := t0) is_32 rfl ?_
  refine JO_convI (k := .i64) (k' := .i32) (n := (t0.n : Int)) ul_21 (tt := .int .i64) ul_3 rfl ?_
  refine JO_call Tryz.call200 (vs := [Sl.v (⟨none, 0, 0⟩ : Sl), .int .i32 (IntKind.wrap .i32 (t0.n : Int))]) (mc rfl (mc rfl mn)) ((hP.spec H).mono ?_ (fun ch Mp h => hX hD h))
  rintro v Mp ⟨M, hP, r1, rfl, H⟩
  refine JO_move (v := Sl.v t0) rfl ?_
  refine JO_loud ((hP.opJ (OpJ_app (s := r1) (z := t0) ul_32 sb_5 zc_5 rfl rfl H)).mono (fun _ _ h => h) (fun _ _ ⟨_, _, f⟩ => f.elim)) ?_
  rintro _ Mp ⟨M, hP, x2, rfl, H⟩
  refine JO_assign (v := Sl.v x2) rfl ?_
  refine JO_nil ?_
  refine J_seq ?_
  refine J_region (by decide) ?_
  refine JO_move (v := Sl.v x2) rfl ?_
  refine JO_move (v := Sl.v x2) rfl ?_
  refine JO_call Tryz.call201 (vs := [Sl.v x2]) (mc rfl mn) ((hP.spec H).mono ?_ (fun ch Mp h => hX hD h))
  rintro v Mp ⟨M, hP, r3, rfl, H⟩
  refine JO_convI (k := .u32) (k' := .i32) (n := r3) ul_21 (tt := .int .u32) ul_301 rfl ?_
  refine JO_call Tryz.call200 (vs := [Sl.v x2, .int .i32 (IntKind.wrap .i32 r3)]) (mc rfl (mc rfl mn)) ((hP.spec H).mono ?_ (fun ch Mp h => hX hD h))
  rintro v Mp ⟨M, hP, r4, rfl, H⟩
  refine JO_assign (v := Sl.v r4) rfl ?_
  refine JO_assign (v := .int .i64 0) rfl ?_
  refine JO_nil ?_
  exact J_ret (kret (pan := X)  hD (fun _ _ hb => hP.sub hb) (resOk (rs := [.tmp 2, .tmp 3]) (vs := [Sl.v r4, .int .i64 0]) rfl ⟨item_tmp rfl, item_tmp rfl, trivial⟩) ⟨r4, 0, rfl, H⟩)

/-! (*brazier/disk.Disk).Append -/
def S127_1 (t0_ : Option PA) (t2_ : Sl) (t8_ : Option PA) (t33_ : Bool) (K : Int → Mem → Prop) (X : List PanicEntry → Mem → Prop) : Mem → Prop :=
 ite' t33_ (nn t0_ fun a16 => st (a16.1, a16.2 + 5) (.bool true) <| K 4) (nn t8_ fun a19 => ldL a19 fun t51_21 => ldL a19 fun t55_23 => ldL a19 fun t60_25 => must (0 ≤ (0 : Int) ∧ (0 : Int) ≤ (t55_23.n : Int) ∧ (t55_23.n : Int) ≤ (t60_25.n : Int) ∧ (t60_25.n : Int) ≤ (t51_21.c : Int)) <| appS 5 1 1 [.int .u8 0] (Sl.cut t51_21 1 (0 : Int) (t55_23.n : Int) (t60_25.n : Int)) t2_ fun x28 => st a19 (Sl.v x28) <| K 0)
def S127 (t0 : Option PA) (t1 : ByteArray) (t2 : Sl) (K : Int → Mem → Prop) (X : List PanicEntry → Mem → Prop) : Mem → Prop :=
 new (.cells #[.string t1] 9 (0, 0)) fun b1 => call 120 [ptr t0, .bool true, Sl.v (⟨some (b1, 0), 1, 1⟩ : Sl)] X fun v_ M => ∃ (r2 : Int), v_ = .int .i64 r2 ∧ ( ite' (r2 != 0) (K r2) (call 63 [ptr t0, .string t1] X fun v_ M => ∃ (r3_0 : Option PA) (r3_1 : Bool), v_ = .tuple #[ptr r3_0, .bool r3_1] ∧ ( nn r3_0 fun a4 => ldL a4 fun t29_6 => ite' (decide ((t2.n : Int) > (IntKind.wrap .i64 (1048576 - (t29_6.n : Int))))) (K 2) (nn t0 fun a8 => both (ldI .i64 (a8.1, a8.2 + 4) fun t39_10 => call 205 [ptr t0] (fun _ _ => False) fun v_ M => ∃ (r12 : Int), v_ = .int .i64 r12 ∧ ( S127_1 t0 t2 r3_0 (decide ((t2.n : Int) > (IntKind.wrap .i64 (t39_10 - r12)))) K X) M) (call 205 [ptr t0] (fun _ _ => False) fun v_ M => ∃ (r13 : Int), v_ = .int .i64 r13 ∧ ( ldI .i64 (a8.1, a8.2 + 4) fun t39_14 => S127_1 t0 t2 r3_0 (decide ((t2.n : Int) > (IntKind.wrap .i64 (t39_14 - r13)))) K X) M))) M)) M
abbrev F127_1 (K : Int → Mem → Prop) (X : List PanicEntry → Mem → Prop) (e : Env) (Mp : Mem) : Prop := ∃ (t0_ : Option PA) (t2_ : Sl) (t8_ : Option PA) (t33_ : Bool) (M : Mem), e.D = [] ∧ e.v 0 = ptr t0_ ∧ e.v 2 = Sl.v t2_ ∧ e.v 8 = ptr t8_ ∧ e.v 33 = .bool t33_ ∧ Pv M [] Mp ∧ S127_1 t0_ t2_ t8_ t33_ K X M
theorem br127 {t0 : Option PA} {t1 : ByteArray} {t2 : Sl} {K : Int → Mem → Prop} {X : List PanicEntry → Mem → Prop} {M : Mem} (H : S127 t0 t1 t2 K X M) :
  Spec Tryz.prog 127 #[ptr t0, .string t1, Sl.v t2] M (fun v_ M => ∃ (r0 : Int), v_ = .int .i64 r0 ∧ K r0 M) X := by
 refine spec_of_J (args := [ptr t0, .string t1, Sl.v t2]) Tryz.func127 rfl Tryz.ntmps127 (Nat.le_of_ble_eq_true rfl) ?_
 have hD : (⟨fun i => ([ptr t0, .string t1, Sl.v t2] : List Value).getD i undef, []⟩ : Env).D = [] := rfl
 have hP := Pv.nil M
 have hX := @kx_of Tryz.prog Tryz.f127 (fun v_ M => ∃ (r0 : Int), v_ = .int .i64 r0 ∧ K r0 M) X
 unfold S127 at H
 refine J_seq ?_
 refine J_region (by decide) ?_
 refine JO_assign (v := .int .i64 0) rfl ?_
 refine JO_nil ?_
 refine J_seq ?_
 refine J_seq ?_
 refine J_region (by decide) ?_
 refine JO_move (v := ptr t0) rfl ?_
 refine JO_move (v := .string t1) rfl ?_
 refine JO_bsl (vs := [(0, .string t1)]) (cs := [.string t1]) (c0 := [.string (⟨#[]⟩ : ByteArray)]) ul_36 sz_9 zc_9 (by kernel_rfl) (by decide) (by decide) (mpc rfl mpn) rfl ?_
 intro b1 hb
 replace H := H b1 (hP.out hb).1
 replace hP := hP.new hb (.cells #[.string t1] 9 (0, 0))
 refine JO_call Tryz.call120 (vs := [ptr t0, .bool true, Sl.v (⟨some (b1, 0), 1, 1⟩ : Sl)]) (mc rfl (mc rfl (mc rfl mn))) ((hP.spec H).mono ?_ (fun ch Mp h => hX hD h))
 rintro v Mp ⟨M, hP, r2, rfl, H⟩
 refine JO_assign (v := .int .i64 r2) rfl ?_
 refine JO_nil ?_
 refine J_seq ?_
 refine J_region (by decide) ?_
 refine JO_move (v := .int .i64 r2) rfl ?_
 refine JO_iop (op := .neq) (k := .i64) (a := r2) (b := 0) rfl rfl trivial ?_
 refine JO_nil ?_
 refine J_cond (t := r2 != 0) rfl (fun hc_ => ?_) (fun hc_ => ?_)
 ·
  replace H := H.1 hc_
  clear hc_
  refine J_seq ?_
  refine J_region (by decide) ?_
  refine JO_move (v := .int .i64 r2) rfl ?_
  refine JO_assign (v := .int .i64 r2) rfl ?_
  refine JO_nil ?_
  exact J_ret (kret (pan := X)  hD (fun _ _ hb => hP.sub hb) (resOk (rs := [.tmp 6]) (vs := [.int .i64 r2]) rfl ⟨item_tmp rfl, trivial⟩) ⟨r2, rfl, H⟩)
 ·
  replace H := H.2 hc_
  clear hc_
  refine J_skip ?_
  refine J_seq ?_
  refine J_region (by decide) ?_
  refine JO_move (v := ptr t0) rfl ?_
  refine JO_move (v := .string t1) rfl ?_
  refine JO_call Tryz.call63 (vs := [ptr t0, .string t1]) (mc rfl (mc rfl mn)) ((hP.spec H).mono ?_ (fun ch Mp h => hX hD h))
  rintro v Mp ⟨M, hP, r3_0, r3_1, rfl, H⟩
  refine JO_move (v := .tuple #[ptr r3_0, .bool r3_1]) rfl ?_
  refine JO_extract (vs := #[ptr r3_0, .bool r3_1]) (v := ptr r3_0) rfl rfl ?_
  refine JO_extract (vs := #[ptr r3_0, .bool r3_1]) (v := .bool r3_1) rfl rfl ?_
  refine JO_assign (v := ptr r3_0) rfl ?_
  refine JO_assign (v := .bool r3_1) rfl ?_
  refine JO_nil ?_
  refine J_seq ?_
  refine J_block ?_
  refine J_seq ?_
  refine J_region (by decide) ?_
  refine JO_move (v := Sl.v t2) rfl ?_
  refine JO_len (s := t2) is_32 rfl ?_
  refine JO_move (v := ptr r3_0) rfl ?_
  obtain ⟨a4, g5, H⟩ := H
  refine JO_nilCheck (p := a4) (tr1 (rfl : _ = ptr r3_0) (congrArg ptr g5)) ?_
  refine JO_fieldAddr (p := a4) fo_135_0 rfl ?_
  obtain ⟨t29_6, g7, H⟩ := H
  refine JO_load (p := a4) (v := Sl.v t29_6) na_32 rfl (hP.cel g7) ?_
  refine JO_len (s := t29_6) is_32 rfl ?_
  refine JO_iop (op := .sub) (k := .i64) (a := 1048576) (b := (t29_6.n : Int)) rfl rfl trivial ?_
  refine JO_iop (op := .gtr) (k := .i64) (a := (t2.n : Int)) (b := IntKind.wrap .i64 (1048576 - (t29_6.n : Int))) rfl rfl trivial ?_
  refine JO_assign (v := .bool (decide ((t2.n : Int) > (IntKind.wrap .i64 (1048576 - (t29_6.n : Int)))))) rfl ?_
  refine JO_nil ?_
  refine J_cond (t := decide ((t2.n : Int) > (IntKind.wrap .i64 (1048576 - (t29_6.n : Int))))) rfl (fun hc_ => ?_) (fun hc_ => ?_)
  ·
   replace H := H.1 hc_
   clear hc_
   refine J_seq ?_
   refine J_region (by decide) ?_
   refine JO_assign (v := .int .i64 2) rfl ?_
   refine JO_nil ?_
   exact J_ret (kret (pan := X)  hD (fun _ _ hb => hP.sub hb) (resOk (rs := [.tmp 6]) (vs := [.int .i64 2]) rfl ⟨item_tmp rfl, trivial⟩) ⟨2, rfl, H⟩)
  ·
   replace H := H.2 hc_
   clear hc_
   refine J_seq ?_
   refine J_mid (F127_1 K X) ?_ ?_
   ·
    refine J_draw [0, 0, 0, 0, 0, 1, 0, 3, 0, 0, 0] (.cho 0 (.cho 1 (.cho 2 (.cho 3 (.cho 4 (.cho 6 (.cho 5 (.cho 7 (.cho 8 (.cho 9 (.cho 10 .done .none) .none) .none) .none) (.cho 7 (.cho 5 (.cho 8 (.cho 9 (.cho 10 .done .none) .none) .none) .none) .none)) .none) .none) .none) .none) .none) .none) rfl (by kernel_rfl) ?_
    refine JE_one ?_
    refine ST0 (fun _ h => by cases h) (fun w => OV_move (v := Sl.v t2) rfl w) ?_
    refine JE_one ?_
    refine ST0 (fun _ h => by cases h) (fun w => OV_len (s := t2) is_32 rfl w) ?_
    refine JE_one ?_
    refine ST0 (fun _ h => by cases h) (fun w => OV_move (v := ptr t0) rfl w) ?_
    refine JE_one ?_
    obtain ⟨a8, g9, H⟩ := H
    refine ST0 (fun _ h => by cases h) (fun w => OV_nilCheck (p := a8) (by exact tr1 (rfl : _ = ptr t0) (congrArg ptr g9)) w) ?_
    refine JE_one ?_
    refine ST0 (fun _ h => by cases h) (fun w => OV_fieldAddr (p := a8) fo_115_4 rfl w) ?_
    refine JE_one ?_
    refine ST0 (fun _ h => by cases h) (fun w => OV_move (v := ptr t0) rfl w) ?_
    obtain ⟨H0_, H⟩ := H
    refine JE_cho ?_ ?_
    ·
     replace H := H0_
     obtain ⟨t39_10, g11, H⟩ := H
     refine ST1 (fun _ h => by cases h) (fun w hs => OV_load (p := (a8.1, a8.2 + 4)) (v := .int .i64 t39_10) na_3 rfl (hP.cel g11) w hs) ?_
     refine JE_one ?_
     refine ST3 ?_
     refine JO_call Tryz.call205 (vs := [ptr t0]) (mc rfl mn) ((hP.spec H).mono ?_ (fun _ _ ⟨_, _, f⟩ => f.elim))
     rintro v Mp ⟨M, hP, r12, rfl, H⟩
     refine Kd_nil ?_
     refine JE_one ?_
     refine ST0 (fun _ h => by cases h) (fun w => OV_iop (op := .sub) (k := .i64) (a := t39_10) (b := r12) rfl rfl trivial w) ?_
     refine JE_one ?_
     refine ST0 (fun _ h => by cases h) (fun w => OV_iop (op := .gtr) (k := .i64) (a := (t2.n : Int)) (b := IntKind.wrap .i64 (t39_10 - r12)) rfl rfl trivial w) ?_
     refine JE_one ?_
     refine ST0 (fun _ h => by cases h) (fun w => OV_assign (v := .bool (decide ((t2.n : Int) > (IntKind.wrap .i64 (t39_10 - r12))))) rfl w) ?_
     refine JE_done ?_
     exact (show F127_1 K X _ _ from ⟨t0, t2, r3_0, decide ((t2.n : Int) > (IntKind.wrap .i64 (t39_10 - r12))), _, hD, rfl, rfl, rfl, rfl, hP, H⟩)
    refine JE_one ?_
    refine ST3 ?_
    refine JO_call Tryz.call205 (vs := [ptr t0]) (mc rfl mn) ((hP.spec H).mono ?_ (fun _ _ ⟨_, _, f⟩ => f.elim))
    rintro v Mp ⟨M, hP, r13, rfl, H⟩
    refine Kd_nil ?_
    refine JE_one ?_
    obtain ⟨t39_14, g15, H⟩ := H
    refine ST1 (fun _ h => by cases h) (fun w hs => OV_load (p := (a8.1, a8.2 + 4)) (v := .int .i64 t39_14) na_3 rfl (hP.cel g15) w hs) ?_
    refine JE_one ?_
    refine ST0 (fun _ h => by cases h) (fun w => OV_iop (op := .sub) (k := .i64) (a := t39_14) (b := r13) rfl rfl trivial w) ?_
    refine JE_one ?_
    refine ST0 (fun _ h => by cases h) (fun w => OV_iop (op := .gtr) (k := .i64) (a := (t2.n : Int)) (b := IntKind.wrap .i64 (t39_14 - r13)) rfl rfl trivial w) ?_
    refine JE_one ?_
    refine ST0 (fun _ h => by cases h) (fun w => OV_assign (v := .bool (decide ((t2.n : Int) > (IntKind.wrap .i64 (t39_14 - r13))))) rfl w) ?_
    refine JE_done ?_
    exact (show F127_1 K X _ _ from ⟨t0, t2, r3_0, decide ((t2.n : Int) > (IntKind.wrap .i64 (t39_14 - r13))), _, hD, rfl, rfl, rfl, rfl, hP, H⟩)
   ·
    rintro e Mp ⟨t0_, t2_, t8_, t33_, M, hD, h0, h2, h8, h33, hP, H⟩
    unfold S127_1 at H
    refine J_cond (t := t33_) h33 (fun hc_ => ?_) (fun hc_ => ?_)
    ·
     replace H := H.1 hc_
     clear hc_
     refine J_seq ?_
     refine J_region (by decide) ?_
     refine JO_move (v := ptr t0_) h0 ?_
     obtain ⟨a16, g17, H⟩ := H
     refine JO_nilCheck (p := a16) (tr1 (rfl : _ = ptr t0_) (congrArg ptr g17)) ?_
     refine JO_fieldAddr (p := a16) fo_115_5 rfl ?_
     obtain ⟨g18, H⟩ := H
     refine JO_store (p := (a16.1, a16.2 + 5)) (v := .bool true) sz_4 rfl rfl rfl (hP.wr g18) ?_
     replace hP := hP.sto g18 (.bool true)
     refine JO_nil ?_
     refine J_seq ?_
     refine J_region (by decide) ?_
     refine JO_assign (v := .int .i64 4) rfl ?_
     refine JO_nil ?_
     exact J_ret (kret (pan := X)  hD (fun _ _ hb => hP.sub hb) (resOk (rs := [.tmp 6]) (vs := [.int .i64 4]) rfl ⟨item_tmp rfl, trivial⟩) ⟨4, rfl, H⟩)
    ·
     replace H := H.2 hc_
     clear hc_
     refine J_skip ?_
     refine J_seq ?_
     refine J_draw [0, 0, 0, 0, 1, 0, 0, 0, 1, 0, 0, 0, 0, 1, 0, 0, 0, 3, 0, 0, 3] (.cho 0 (.cho 1 (.cho 2 (.cho 3 (.cho 5 (.cho 6 (.cho 7 (.cho 10 (.cho 11 (.cho 12 (.cho 16 (.cho 4 (.cho 8 (.cho 9 (.cho 13 (.cho 14 (.cho 15 (.cho 17 (.cho 18 (.cho 19 (.cho 20 .done .none) .none) .none) .none) .none) .none) .none) .none) .none) .none) .none) .none) .none) .none) .none) .none) .none) .none) .none) .none) .none) rfl (by kernel_rfl) ?_
     refine JE_one ?_
     refine ST0 (fun _ h => by cases h) (fun w => OV_move (v := ptr t8_) (by exact h8) w) ?_
     refine JE_one ?_
     refine ST0 (fun _ h => by cases h) (fun w => OV_move (v := ptr t8_) (by exact h8) w) ?_
     refine JE_one ?_
     obtain ⟨a19, g20, H⟩ := H
     refine ST0 (fun _ h => by cases h) (fun w => OV_nilCheck (p := a19) (by exact tr1 (rfl : _ = ptr t8_) (congrArg ptr g20)) w) ?_
     refine JE_one ?_
     refine ST0 (fun _ h => by cases h) (fun w => OV_fieldAddr (p := a19) fo_135_0 rfl w) ?_
     refine JE_one ?_
     refine ST0 (fun _ h => by cases h) (fun w => OV_move (v := ptr t8_) (by exact h8) w) ?_
     refine JE_one ?_
     refine ST0 (fun _ h => by cases h) (fun w => OV_nilCheck (p := a19) (by exact tr1 (rfl : _ = ptr t8_) (congrArg ptr g20)) w) ?_
     refine JE_one ?_
     refine ST0 (fun _ h => by cases h) (fun w => OV_fieldAddr (p := a19) fo_135_0 rfl w) ?_
     refine JE_one ?_
     refine ST0 (fun _ h => by cases h) (fun w => OV_move (v := ptr t8_) (by exact h8) w) ?_
     refine JE_one ?_
     refine ST0 (fun _ h => by cases h) (fun w => OV_nilCheck (p := a19) (by exact tr1 (rfl : _ = ptr t8_) (congrArg ptr g20)) w) ?_
     refine JE_one ?_
     refine ST0 (fun _ h => by cases h) (fun w => OV_fieldAddr (p := a19) fo_135_0 rfl w) ?_
     refine JE_one ?_
     refine ST0 (fun _ h => by cases h) (fun w => OV_move (v := Sl.v t2_) (by exact h2) w) ?_
     refine JE_one ?_
     obtain ⟨t51_21, g22, H⟩ := H
     refine ST1 (fun _ h => by cases h) (fun w hs => OV_load (p := a19) (v := Sl.v t51_21) na_32 rfl (hP.cel g22) w hs) ?_
     refine JE_one ?_
     obtain ⟨t55_23, g24, H⟩ := H
     refine ST1 (fun _ h => by cases h) (fun w hs => OV_load (p := a19) (v := Sl.v t55_23) na_32 rfl (hP.cel g24) w hs) ?_
     refine JE_one ?_
     refine ST0 (fun _ h => by cases h) (fun w => OV_len (s := t55_23) is_32 rfl w) ?_
     refine JE_one ?_
     obtain ⟨t60_25, g26, H⟩ := H
     refine ST1 (fun _ h => by cases h) (fun w hs => OV_load (p := a19) (v := Sl.v t60_25) na_32 rfl (hP.cel g26) w hs) ?_
     refine JE_one ?_
     refine ST0 (fun _ h => by cases h) (fun w => OV_len (s := t60_25) is_32 rfl w) ?_
     refine JE_one ?_
     obtain ⟨g27, H⟩ := H
     refine ST0 (fun _ h => by cases h) (fun w => OV_slice (s := t51_21) (l := (0 : Int)) (h := (t55_23.n : Int)) (m := (t60_25.n : Int)) es_32 rfl (by exact ⟨_, rfl⟩) (by exact ⟨_, rfl⟩) (by exact rfl) g27.1 g27.2.1 (fun _ => g27.2.2.1) g27.2.2.2 (by simp) w) ?_
     refine JE_one ?_
     refine ST3 ?_
     refine JO_loud ((hP.opJ (OpJ_app (s := Sl.cut t51_21 1 (0 : Int) (t55_23.n : Int) (t60_25.n : Int)) (z := t2_) ul_32 sb_5 zc_5 rfl rfl H)).mono (fun _ _ h => h) (fun _ _ ⟨_, _, f⟩ => f.elim)) ?_
     rintro _ Mp ⟨M, hP, x28, rfl, H⟩
     refine Kd_nil ?_
     refine JE_one ?_
     refine ST0 (fun _ h => by cases h) (fun w => OV_nilCheck (p := a19) (by exact tr1 (rfl : _ = ptr t8_) (congrArg ptr g20)) w) ?_
     refine JE_one ?_
     refine ST0 (fun _ h => by cases h) (fun w => OV_fieldAddr (p := a19) fo_135_0 rfl w) ?_
     refine JE_one ?_
     refine ST3 ?_
     obtain ⟨g29, H⟩ := H
     refine JO_store (p := a19) (v := Sl.v x28) sz_32 rfl rfl rfl (hP.wr g29) ?_
     replace hP := hP.sto g29 (Sl.v x28)
     refine Kd_nil ?_
     refine JE_done ?_
     refine J_seq ?_
     refine J_region (by decide) ?_
     refine JO_assign (v := .int .i64 0) rfl ?_
     refine JO_nil ?_
     exact J_ret (kret (pan := X)  hD (fun _ _ hb => hP.sub hb) (resOk (rs := [.tmp 6]) (vs := [.int .i64 0]) rfl ⟨item_tmp rfl, trivial⟩) ⟨0, rfl, H⟩)

/-! brazier/wal.frames -/
def S131 (t0 : Sl) (K : Value → Mem → Prop) (X : List PanicEntry → Mem → Prop) : Mem → Prop :=
 new (.cells #[Sl.v t0] 32 (0, 0)) fun b1 => K (.func (.func 207) #[] #[ptr (some (b1, 0))])
theorem br131 {t0 : Sl} {K : Value → Mem → Prop} {X : List PanicEntry → Mem → Prop} {M : Mem} (H : S131 t0 K X M) :
  Spec Tryz.prog 131 #[Sl.v t0] M (fun v_ M => ∃ (r0 : Value), v_ = r0 ∧ K r0 M) X := by
 refine spec_of_J (args := [Sl.v t0]) Tryz.func131 rfl Tryz.ntmps131 (Nat.le_of_ble_eq_true rfl) ?_
 have hD : (⟨fun i => ([Sl.v t0] : List Value).getD i undef, []⟩ : Env).D = [] := rfl
 have hP := Pv.nil M
 have hX := @kx_of Tryz.prog Tryz.f131 (fun v_ M => ∃ (r0 : Value), v_ = r0 ∧ K r0 M) X
 unfold S131 at H
 refine J_seq ?_
 refine J_region (by decide) ?_
 refine JO_box (v := Sl.v t0) rfl ?_
 intro b1 hb
 replace H := H b1 (hP.out hb).1
 replace hP := hP.new hb (.cells #[Sl.v t0] 32 (0, 0))
 refine JO_assign (v := .nilFunc) rfl ?_
 refine JO_nil ?_
 refine J_seq ?_
 refine J_region (by decide) ?_
 refine JO_fun (vs := []) (us := [ptr (some (b1, 0))]) mn (mc rfl mn) ?_
 refine JO_assign (v := .func (.func 207) #[] #[ptr (some (b1, 0))]) rfl ?_
 refine JO_nil ?_
 exact J_ret (kret (pan := X)  hD (fun _ _ hb => hP.sub hb) (resOk (rs := [.tmp 2]) (vs := [.func (.func 207) #[] #[ptr (some (b1, 0))]]) rfl ⟨item_tmp rfl, trivial⟩) ⟨.func (.func 207) #[] #[ptr (some (b1, 0))], rfl, H⟩)

/-! brazier/digest.Name -/
def S195 (t0 : Sl) (K : ByteArray → Mem → Prop) (X : List PanicEntry → Mem → Prop) : Mem → Prop :=
 call 277 [Sl.v t0] X fun v_ M => ∃ (r1 : List Value), v_ = .agg r1.toArray ∧ ( new (.cells (List.replicate 32 (.int .u8 0)).toArray 373 (0, 0)) fun b2 => stA 32 (b2, 0) r1 <| call 278 [Sl.v (⟨some (b2, 0), 32, 32⟩ : Sl)] X fun v_ M => ∃ (r6 : ByteArray), v_ = .string r6 ∧ ( K r6) M) M
theorem br195 {t0 : Sl} {K : ByteArray → Mem → Prop} {X : List PanicEntry → Mem → Prop} {M : Mem} (H : S195 t0 K X M) :
  Spec Tryz.prog 195 #[Sl.v t0] M (fun v_ M => ∃ (r0 : ByteArray), v_ = .string r0 ∧ K r0 M) X := by
 refine spec_of_J (args := [Sl.v t0]) Tryz.func195 rfl Tryz.ntmps195 (Nat.le_of_ble_eq_true rfl) ?_
 have hD : (⟨fun i => ([Sl.v t0] : List Value).getD i undef, []⟩ : Env).D = [] := rfl
 have hP := Pv.nil M
 have hX := @kx_of Tryz.prog Tryz.f195 (fun v_ M => ∃ (r0 : ByteArray), v_ = .string r0 ∧ K r0 M) X
 unfold S195 at H
 refine J_seq ?_
 refine J_region (by decide) ?_
 refine JO_assign (v := .string (⟨#[]⟩ : ByteArray)) rfl ?_
 refine JO_nil ?_
 refine J_seq ?_
 refine J_region (by decide) ?_
 refine JO_move (v := Sl.v t0) rfl ?_
 refine JO_call Tryz.call277 (vs := [Sl.v t0]) (mc rfl mn) ((hP.spec H).mono ?_ (fun ch Mp h => hX hD h))
 rintro v Mp ⟨M, hP, r1, rfl, H⟩
 refine JO_alloc (cs := List.replicate 32 (.int .u8 0)) zc_373 ?_
 intro b2 hb
 replace H := H b2 (hP.out hb).1
 replace hP := hP.new hb (.cells (List.replicate 32 (.int .u8 0)).toArray 373 (0, 0))
 obtain ⟨g4, g5, g3, H⟩ := H
 refine JO_storeAgg (p := (b2, 0)) (cs := r1) (by rw [g4]; exact sz_373) rfl rfl g5 (hP.wrs g3) ?_
 replace hP := hP.stos r1 g3
 refine JO_nil ?_
 refine J_seq ?_
 refine J_region (by decide) ?_
 refine JO_sliceA (p := (b2, 0)) ea_373 rfl ?_
 refine JO_call Tryz.call278 (vs := [Sl.v (⟨some (b2, 0), 32, 32⟩ : Sl)]) (mc rfl mn) ((hP.spec H).mono ?_ (fun ch Mp h => hX hD h))
 rintro v Mp ⟨M, hP, r6, rfl, H⟩
 refine JO_assign (v := .string r6) rfl ?_
 refine JO_nil ?_
 exact J_ret (kret (pan := X)  hD (fun _ _ hb => hP.sub hb) (resOk (rs := [.tmp 2]) (vs := [.string r6]) rfl ⟨item_tmp rfl, trivial⟩) ⟨r6, rfl, H⟩)

/-! (*brazier/sets.Row[string, int]).Put -/
def S199_1 (K : Bool → Mem → Prop) (X : List PanicEntry → Mem → Prop) : Mem → Prop :=
 K true
def S199 (t0 : Option PA) (t1 : ByteArray) (t2 : Int) (K : Bool → Mem → Prop) (X : List PanicEntry → Mem → Prop) : Mem → Prop :=
 ite' t0.isNone (K false) (call 206 [ptr t0, .string t1] X fun v_ M => ∃ (r1_0 : Int) (r1_1 : Bool), v_ = .tuple #[.int .i64 r1_0, .bool r1_1] ∧ ( ite' r1_1 (nn t0 fun a2 => ldL (a2.1, a2.2 + 1) fun t21_4 => ix t21_4 1 r1_0 fun p10 => st p10 (.int .i64 t2) <| K false) (nn t0 fun a12 => ldL a12 fun t30_14 => both (new (.cells #[.string t1] 9 (0, 0)) fun b16 => both (call 280 [Sl.v t30_14, .int .i64 r1_0, Sl.v (⟨some (b16, 0), 1, 1⟩ : Sl)] (fun _ _ => False) fun v_ M => ∃ (r17 : Sl), v_ = Sl.v r17 ∧ ( ldL (a12.1, a12.2 + 1) fun t38_18 => new (.cells #[.int .i64 t2] 3 (0, 0)) fun b20 => call 281 [Sl.v t38_18, .int .i64 r1_0, Sl.v (⟨some (b20, 0), 1, 1⟩ : Sl)] (fun _ _ => False) fun v_ M => ∃ (r21 : Sl), v_ = Sl.v r21 ∧ ( st a12 (Sl.v r17) <| st (a12.1, a12.2 + 1) (Sl.v r21) <| S199_1 K X) M) M) (both (ldL (a12.1, a12.2 + 1) fun t38_24 => call 280 [Sl.v t30_14, .int .i64 r1_0, Sl.v (⟨some (b16, 0), 1, 1⟩ : Sl)] (fun _ _ => False) fun v_ M => ∃ (r26 : Sl), v_ = Sl.v r26 ∧ ( new (.cells #[.int .i64 t2] 3 (0, 0)) fun b27 => call 281 [Sl.v t38_24, .int .i64 r1_0, Sl.v (⟨some (b27, 0), 1, 1⟩ : Sl)] (fun _ _ => False) fun v_ M => ∃ (r28 : Sl), v_ = Sl.v r28 ∧ ( st a12 (Sl.v r26) <| st (a12.1, a12.2 + 1) (Sl.v r28) <| S199_1 K X) M) M) (new (.cells #[.int .i64 t2] 3 (0, 0)) fun b31 => both (call 280 [Sl.v t30_14, .int .i64 r1_0, Sl.v (⟨some (b16, 0), 1, 1⟩ : Sl)] (fun _ _ => False) fun v_ M => ∃ (r32 : Sl), v_ = Sl.v r32 ∧ ( ldL (a12.1, a12.2 + 1) fun t38_33 => call 281 [Sl.v t38_33, .int .i64 r1_0, Sl.v (⟨some (b31, 0), 1, 1⟩ : Sl)] (fun _ _ => False) fun v_ M => ∃ (r35 : Sl), v_ = Sl.v r35 ∧ ( st a12 (Sl.v r32) <| st (a12.1, a12.2 + 1) (Sl.v r35) <| S199_1 K X) M) M) (ldL (a12.1, a12.2 + 1) fun t38_38 => call 280 [Sl.v t30_14, .int .i64 r1_0, Sl.v (⟨some (b16, 0), 1, 1⟩ : Sl)] (fun _ _ => False) fun v_ M => ∃ (r40 : Sl), v_ = Sl.v r40 ∧ ( call 281 [Sl.v t38_38, .int .i64 r1_0, Sl.v (⟨some (b31, 0), 1, 1⟩ : Sl)] (fun _ _ => False) fun v_ M => ∃ (r41 : Sl), v_ = Sl.v r41 ∧ ( st a12 (Sl.v r40) <| st (a12.1, a12.2 + 1) (Sl.v r41) <| S199_1 K X) M) M)))) (both (ldL (a12.1, a12.2 + 1) fun t38_44 => new (.cells #[.string t1] 9 (0, 0)) fun b46 => call 280 [Sl.v t30_14, .int .i64 r1_0, Sl.v (⟨some (b46, 0), 1, 1⟩ : Sl)] (fun _ _ => False) fun v_ M => ∃ (r47 : Sl), v_ = Sl.v r47 ∧ ( new (.cells #[.int .i64 t2] 3 (0, 0)) fun b48 => call 281 [Sl.v t38_44, .int .i64 r1_0, Sl.v (⟨some (b48, 0), 1, 1⟩ : Sl)] (fun _ _ => False) fun v_ M => ∃ (r49 : Sl), v_ = Sl.v r49 ∧ ( st a12 (Sl.v r47) <| st (a12.1, a12.2 + 1) (Sl.v r49) <| S199_1 K X) M) M) (new (.cells #[.int .i64 t2] 3 (0, 0)) fun b52 => both (new (.cells #[.string t1] 9 (0, 0)) fun b53 => both (call 280 [Sl.v t30_14, .int .i64 r1_0, Sl.v (⟨some (b53, 0), 1, 1⟩ : Sl)] (fun _ _ => False) fun v_ M => ∃ (r54 : Sl), v_ = Sl.v r54 ∧ ( ldL (a12.1, a12.2 + 1) fun t38_55 => call 281 [Sl.v t38_55, .int .i64 r1_0, Sl.v (⟨some (b52, 0), 1, 1⟩ : Sl)] (fun _ _ => False) fun v_ M => ∃ (r57 : Sl), v_ = Sl.v r57 ∧ ( st a12 (Sl.v r54) <| st (a12.1, a12.2 + 1) (Sl.v r57) <| S199_1 K X) M) M) (ldL (a12.1, a12.2 + 1) fun t38_60 => call 280 [Sl.v t30_14, .int .i64 r1_0, Sl.v (⟨some (b53, 0), 1, 1⟩ : Sl)] (fun _ _ => False) fun v_ M => ∃ (r62 : Sl), v_ = Sl.v r62 ∧ ( call 281 [Sl.v t38_60, .int .i64 r1_0, Sl.v (⟨some (b52, 0), 1, 1⟩ : Sl)] (fun _ _ => False) fun v_ M => ∃ (r63 : Sl), v_ = Sl.v r63 ∧ ( st a12 (Sl.v r62) <| st (a12.1, a12.2 + 1) (Sl.v r63) <| S199_1 K X) M) M)) (ldL (a12.1, a12.2 + 1) fun t38_66 => new (.cells #[.string t1] 9 (0, 0)) fun b68 => call 280 [Sl.v t30_14, .int .i64 r1_0, Sl.v (⟨some (b68, 0), 1, 1⟩ : Sl)] (fun _ _ => False) fun v_ M => ∃ (r69 : Sl), v_ = Sl.v r69 ∧ ( call 281 [Sl.v t38_66, .int .i64 r1_0, Sl.v (⟨some (b52, 0), 1, 1⟩ : Sl)] (fun _ _ => False) fun v_ M => ∃ (r70 : Sl), v_ = Sl.v r70 ∧ ( st a12 (Sl.v r69) <| st (a12.1, a12.2 + 1) (Sl.v r70) <| S199_1 K X) M) M))))) M)
abbrev F199_1 (K : Bool → Mem → Prop) (X : List PanicEntry → Mem → Prop) (e : Env) (Mp : Mem) : Prop := ∃ (M : Mem), e.D = [] ∧ Pv M [] Mp ∧ S199_1  K X M
theorem br199 {t0 : Option PA} {t1 : ByteArray} {t2 : Int} {K : Bool → Mem → Prop} {X : List PanicEntry → Mem → Prop} {M : Mem} (H : S199 t0 t1 t2 K X M) :
  Spec Tryz.prog 199 #[ptr t0, .string t1, .int .i64 t2] M (fun v_ M => ∃ (r0 : Bool), v_ = .bool r0 ∧ K r0 M) X := by
 refine spec_of_J (args := [ptr t0, .string t1, .int .i64 t2]) Tryz.func199 rfl Tryz.ntmps199 (Nat.le_of_ble_eq_true rfl) ?_
 have hD : (⟨fun i => ([ptr t0, .string t1, .int .i64 t2] : List Value).getD i undef, []⟩ : Env).D = [] := rfl
 have hP := Pv.nil M
 have hX := @kx_of Tryz.prog Tryz.f199 (fun v_ M => ∃ (r0 : Bool), v_ = .bool r0 ∧ K r0 M) X
 unfold S199 at H
 refine J_seq ?_
 refine J_region (by decide) ?_
 refine JO_assign (v := .bool false) rfl ?_
 refine JO_nil ?_
 refine J_seq ?_
 refine J_seq ?_
 refine J_region (by decide) ?_
 refine JO_move (v := ptr t0) rfl ?_
 refine JO_eqlNil (p := t0) ip_108 rfl rfl ?_
 refine JO_nil ?_
 refine J_cond (t := t0.isNone) rfl (fun hc_ => ?_) (fun hc_ => ?_)
 ·
  replace H := H.1 hc_
  clear hc_
  refine J_seq ?_
  refine J_region (by decide) ?_
  refine JO_assign (v := .bool false) rfl ?_
  refine JO_nil ?_
  exact J_ret (kret (pan := X)  hD (fun _ _ hb => hP.sub hb) (resOk (rs := [.tmp 6]) (vs := [.bool false]) rfl ⟨item_tmp rfl, trivial⟩) ⟨false, rfl, H⟩)
 ·
  replace H := H.2 hc_
  clear hc_
  refine J_skip ?_
  refine J_seq ?_
  refine J_region (by decide) ?_
  refine JO_move (v := ptr t0) rfl ?_
  refine JO_move (v := .string t1) rfl ?_
  refine JO_call Tryz.call206 (vs := [ptr t0, .string t1]) (mc rfl (mc rfl mn)) ((hP.spec H).mono ?_ (fun ch Mp h => hX hD h))
  rintro v Mp ⟨M, hP, r1_0, r1_1, rfl, H⟩
  refine JO_move (v := .tuple #[.int .i64 r1_0, .bool r1_1]) rfl ?_
  refine JO_extract (vs := #[.int .i64 r1_0, .bool r1_1]) (v := .int .i64 r1_0) rfl rfl ?_
  refine JO_extract (vs := #[.int .i64 r1_0, .bool r1_1]) (v := .bool r1_1) rfl rfl ?_
  refine JO_assign (v := .int .i64 r1_0) rfl ?_
  refine JO_assign (v := .bool r1_1) rfl ?_
  refine JO_nil ?_
  refine J_seq ?_
  refine J_seq ?_
  refine J_region (by decide) ?_
  refine JO_move (v := .bool r1_1) rfl ?_
  refine JO_nil ?_
  refine J_cond (t := r1_1) rfl (fun hc_ => ?_) (fun hc_ => ?_)
  ·
   replace H := H.1 hc_
   clear hc_
   refine J_seq ?_
   refine J_region (by decide) ?_
   refine JO_move (v := ptr t0) rfl ?_
   obtain ⟨a2, g3, H⟩ := H
   refine JO_nilCheck (p := a2) (tr1 (rfl : _ = ptr t0) (congrArg ptr g3)) ?_
   refine JO_fieldAddr (p := a2) fo_111_1 rfl ?_
   obtain ⟨t21_4, g5, H⟩ := H
   refine JO_load (p := (a2.1, a2.2 + 1)) (v := Sl.v t21_4) na_109 rfl (hP.cel g5) ?_
   refine JO_move (v := .int .i64 r1_0) rfl ?_
   refine JO_move (v := .int .i64 t2) rfl ?_
   obtain ⟨a6, g7, g8, g9, H⟩ := H
   refine JO_indexAddr (s := t21_4) (p := a6) (i := r1_0) es_109 rfl rfl g7 g8 g9 ?_
   obtain ⟨p10, hq_⟩ : ∃ q : PA, q = (a6.1, a6.2 + (r1_0 : Int).toNat * 1) := ⟨_, rfl⟩; rw [← hq_] at H ⊢; clear hq_
   obtain ⟨g11, H⟩ := H
   refine JO_store (p := p10) (v := .int .i64 t2) sz_3 rfl rfl rfl (hP.wr g11) ?_
   replace hP := hP.sto g11 (.int .i64 t2)
   refine JO_nil ?_
   refine J_seq ?_
   refine J_region (by decide) ?_
   refine JO_assign (v := .bool false) rfl ?_
   refine JO_nil ?_
   exact J_ret (kret (pan := X)  hD (fun _ _ hb => hP.sub hb) (resOk (rs := [.tmp 6]) (vs := [.bool false]) rfl ⟨item_tmp rfl, trivial⟩) ⟨false, rfl, H⟩)
  ·
   replace H := H.2 hc_
   clear hc_
   refine J_skip ?_
   refine J_seq ?_
   refine J_mid (F199_1 K X) ?_ ?_
   ·
    refine J_draw [0, 0, 0, 0, 0, 1, 0, 0, 2, 3, 0, 0, 0, 1, 0, 0, 2, 3, 0, 0, 3, 0, 0, 3] (.cho 0 (.cho 1 (.cho 2 (.cho 3 (.cho 4 (.cho 6 (.cho 7 (.cho 10 (.cho 11 (.cho 12 (.cho 14 (.cho 15 (.cho 5 (.cho 8 (.cho 9 (.cho 13 (.cho 16 (.cho 17 (.cho 18 (.cho 19 (.cho 20 (.cho 21 (.cho 22 (.cho 23 .done .none) .none) .none) .none) .none) .none) .none) .none) .none) (.cho 13 (.cho 9 (.cho 16 (.cho 17 (.cho 18 (.cho 19 (.cho 20 (.cho 21 (.cho 22 (.cho 23 .done .none) .none) .none) .none) .none) .none) .none) .none) .none) (.cho 16 (.cho 9 (.cho 13 (.cho 17 (.cho 18 (.cho 19 (.cho 20 (.cho 21 (.cho 22 (.cho 23 .done .none) .none) .none) .none) .none) .none) .none) .none) (.cho 13 (.cho 9 (.cho 17 (.cho 18 (.cho 19 (.cho 20 (.cho 21 (.cho 22 (.cho 23 .done .none) .none) .none) .none) .none) .none) .none) .none) .none)) .none))) (.cho 13 (.cho 8 (.cho 9 (.cho 16 (.cho 17 (.cho 18 (.cho 19 (.cho 20 (.cho 21 (.cho 22 (.cho 23 .done .none) .none) .none) .none) .none) .none) .none) .none) .none) .none) (.cho 16 (.cho 8 (.cho 9 (.cho 13 (.cho 17 (.cho 18 (.cho 19 (.cho 20 (.cho 21 (.cho 22 (.cho 23 .done .none) .none) .none) .none) .none) .none) .none) .none) (.cho 13 (.cho 9 (.cho 17 (.cho 18 (.cho 19 (.cho 20 (.cho 21 (.cho 22 (.cho 23 .done .none) .none) .none) .none) .none) .none) .none) .none) .none)) (.cho 13 (.cho 8 (.cho 9 (.cho 17 (.cho 18 (.cho 19 (.cho 20 (.cho 21 (.cho 22 (.cho 23 .done .none) .none) .none) .none) .none) .none) .none) .none) .none) .none)) .none))) .none) .none) .none) .none) .none) .none) .none) .none) .none) .none) .none) .none) .none) rfl (by kernel_rfl) ?_
    refine JE_one ?_
    refine ST0 (fun _ h => by cases h) (fun w => OV_move (v := ptr t0) rfl w) ?_
    refine JE_one ?_
    refine ST0 (fun _ h => by cases h) (fun w => OV_move (v := ptr t0) rfl w) ?_
    refine JE_one ?_
    refine ST0 (fun _ h => by cases h) (fun w => OV_move (v := ptr t0) rfl w) ?_
    refine JE_one ?_
    obtain ⟨a12, g13, H⟩ := H
    refine ST0 (fun _ h => by cases h) (fun w => OV_nilCheck (p := a12) (by exact tr1 (rfl : _ = ptr t0) (congrArg ptr g13)) w) ?_
    refine JE_one ?_
    refine ST0 (fun _ h => by cases h) (fun w => OV_fieldAddr (p := a12) fo_111_0 rfl w) ?_
    refine JE_one ?_
    refine ST0 (fun _ h => by cases h) (fun w => OV_move (v := .int .i64 r1_0) rfl w) ?_
    refine JE_one ?_
    refine ST0 (fun _ h => by cases h) (fun w => OV_move (v := .string t1) rfl w) ?_
    refine JE_one ?_
    refine ST0 (fun _ h => by cases h) (fun w => OV_move (v := ptr t0) rfl w) ?_
    refine JE_one ?_
    refine ST0 (fun _ h => by cases h) (fun w => OV_nilCheck (p := a12) (by exact tr1 (rfl : _ = ptr t0) (congrArg ptr g13)) w) ?_
    refine JE_one ?_
    refine ST0 (fun _ h => by cases h) (fun w => OV_fieldAddr (p := a12) fo_111_1 rfl w) ?_
    refine JE_one ?_
    refine ST0 (fun _ h => by cases h) (fun w => OV_move (v := .int .i64 r1_0) rfl w) ?_
    refine JE_one ?_
    refine ST0 (fun _ h => by cases h) (fun w => OV_move (v := .int .i64 t2) rfl w) ?_
    refine JE_one ?_
    obtain ⟨t30_14, g15, H⟩ := H
    refine ST1 (fun _ h => by cases h) (fun w hs => OV_load (p := a12) (v := Sl.v t30_14) na_36 rfl (hP.cel g15) w hs) ?_
    obtain ⟨H0_, H⟩ := H
    refine JE_cho ?_ ?_
    ·
     replace H := H0_
     refine ST2 (val := fun b => Sl.v ⟨some (b, 0), 1, 1⟩) (fun _ h => by cases h) (fun w => OA_bsl (vs := [(0, .string t1)]) (cs := [.string t1]) (c0 := [.string (⟨#[]⟩ : ByteArray)]) ul_36 sz_9 zc_9 (by kernel_rfl) (by decide) (by decide) (mpc rfl mpn) rfl w) ?_
     intro b16 hb
     replace H := H b16 (hP.out hb).1
     replace hP := hP.new hb (.cells #[.string t1] 9 (0, 0))
     obtain ⟨H0_, H⟩ := H
     refine JE_cho ?_ ?_
     ·
      replace H := H0_
      refine ST3 ?_
      refine JO_call Tryz.call280 (vs := [Sl.v t30_14, .int .i64 r1_0, Sl.v (⟨some (b16, 0), 1, 1⟩ : Sl)]) (mc rfl (mc rfl (mc rfl mn))) ((hP.spec H).mono ?_ (fun _ _ ⟨_, _, f⟩ => f.elim))
      rintro v Mp ⟨M, hP, r17, rfl, H⟩
      refine Kd_nil ?_
      refine JE_one ?_
      obtain ⟨t38_18, g19, H⟩ := H
      refine ST1 (fun _ h => by cases h) (fun w hs => OV_load (p := (a12.1, a12.2 + 1)) (v := Sl.v t38_18) na_109 rfl (hP.cel g19) w hs) ?_
      refine JE_one ?_
      refine ST2 (val := fun b => Sl.v ⟨some (b, 0), 1, 1⟩) (fun _ h => by cases h) (fun w => OA_bsl (vs := [(0, .int .i64 t2)]) (cs := [.int .i64 t2]) (c0 := [.int .i64 0]) ul_109 sz_3 zc_3 (by kernel_rfl) (by decide) (by decide) (mpc rfl mpn) rfl w) ?_
      intro b20 hb
      replace H := H b20 (hP.out hb).1
      replace hP := hP.new hb (.cells #[.int .i64 t2] 3 (0, 0))
      refine JE_one ?_
      refine ST3 ?_
      refine JO_call Tryz.call281 (vs := [Sl.v t38_18, .int .i64 r1_0, Sl.v (⟨some (b20, 0), 1, 1⟩ : Sl)]) (mc rfl (mc rfl (mc rfl mn))) ((hP.spec H).mono ?_ (fun _ _ ⟨_, _, f⟩ => f.elim))
      rintro v Mp ⟨M, hP, r21, rfl, H⟩
      refine Kd_nil ?_
      refine JE_one ?_
      refine ST0 (fun _ h => by cases h) (fun w => OV_nilCheck (p := a12) (by exact tr1 (rfl : _ = ptr t0) (congrArg ptr g13)) w) ?_
      refine JE_one ?_
      refine ST0 (fun _ h => by cases h) (fun w => OV_fieldAddr (p := a12) fo_111_0 rfl w) ?_
      refine JE_one ?_
      refine ST3 ?_
      obtain ⟨g22, H⟩ := H
      refine JO_store (p := a12) (v := Sl.v r17) sz_36 rfl rfl rfl (hP.wr g22) ?_
      replace hP := hP.sto g22 (Sl.v r17)
      refine Kd_nil ?_
      refine JE_one ?_
      refine ST0 (fun _ h => by cases h) (fun w => OV_nilCheck (p := a12) (by exact tr1 (rfl : _ = ptr t0) (congrArg ptr g13)) w) ?_
      refine JE_one ?_
      refine ST0 (fun _ h => by cases h) (fun w => OV_fieldAddr (p := a12) fo_111_1 rfl w) ?_
      refine JE_one ?_
      refine ST3 ?_
      obtain ⟨g23, H⟩ := H
      refine JO_store (p := (a12.1, a12.2 + 1)) (v := Sl.v r21) sz_109 rfl rfl rfl (hP.wr g23) ?_
      replace hP := hP.sto g23 (Sl.v r21)
      refine Kd_nil ?_
      refine JE_done ?_
      exact (show F199_1 K X _ _ from ⟨_, hD, hP, H⟩)
     obtain ⟨H0_, H⟩ := H
     refine JE_cho ?_ ?_
     ·
      replace H := H0_
      obtain ⟨t38_24, g25, H⟩ := H
      refine ST1 (fun _ h => by cases h) (fun w hs => OV_load (p := (a12.1, a12.2 + 1)) (v := Sl.v t38_24) na_109 rfl (hP.cel g25) w hs) ?_
      refine JE_one ?_
      refine ST3 ?_
      refine JO_call Tryz.call280 (vs := [Sl.v t30_14, .int .i64 r1_0, Sl.v (⟨some (b16, 0), 1, 1⟩ : Sl)]) (mc rfl (mc rfl (mc rfl mn))) ((hP.spec H).mono ?_ (fun _ _ ⟨_, _, f⟩ => f.elim))
      rintro v Mp ⟨M, hP, r26, rfl, H⟩
      refine Kd_nil ?_
      refine JE_one ?_
      refine ST2 (val := fun b => Sl.v ⟨some (b, 0), 1, 1⟩) (fun _ h => by cases h) (fun w => OA_bsl (vs := [(0, .int .i64 t2)]) (cs := [.int .i64 t2]) (c0 := [.int .i64 0]) ul_109 sz_3 zc_3 (by kernel_rfl) (by decide) (by decide) (mpc rfl mpn) rfl w) ?_
      intro b27 hb
      replace H := H b27 (hP.out hb).1
      replace hP := hP.new hb (.cells #[.int .i64 t2] 3 (0, 0))
      refine JE_one ?_
      refine ST3 ?_
      refine JO_call Tryz.call281 (vs := [Sl.v t38_24, .int .i64 r1_0, Sl.v (⟨some (b27, 0), 1, 1⟩ : Sl)]) (mc rfl (mc rfl (mc rfl mn))) ((hP.spec H).mono ?_ (fun _ _ ⟨_, _, f⟩ => f.elim))
      rintro v Mp ⟨M, hP, r28, rfl, H⟩
      refine Kd_nil ?_
      refine JE_one ?_
      refine ST0 (fun _ h => by cases h) (fun w => OV_nilCheck (p := a12) (by exact tr1 (rfl : _ = ptr t0) (congrArg ptr g13)) w) ?_
      refine JE_one ?_
      refine ST0 (fun _ h => by cases h) (fun w => OV_fieldAddr (p := a12) fo_111_0 rfl w) ?_
      refine JE_one ?_
      refine ST3 ?_
      obtain ⟨g29, H⟩ := H
      refine JO_store (p := a12) (v := Sl.v r26) sz_36 rfl rfl rfl (hP.wr g29) ?_
      replace hP := hP.sto g29 (Sl.v r26)
      refine Kd_nil ?_
      refine JE_one ?_
      refine ST0 (fun _ h => by cases h) (fun w => OV_nilCheck (p := a12) (by exact tr1 (rfl : _ = ptr t0) (congrArg ptr g13)) w) ?_
      refine JE_one ?_
      refine ST0 (fun _ h => by cases h) (fun w => OV_fieldAddr (p := a12) fo_111_1 rfl w) ?_
      refine JE_one ?_
      refine ST3 ?_
      obtain ⟨g30, H⟩ := H
      refine JO_store (p := (a12.1, a12.2 + 1)) (v := Sl.v r28) sz_109 rfl rfl rfl (hP.wr g30) ?_
      replace hP := hP.sto g30 (Sl.v r28)
      refine Kd_nil ?_
      refine JE_done ?_
      exact (show F199_1 K X _ _ from ⟨_, hD, hP, H⟩)
     refine JE_one ?_
     refine ST2 (val := fun b => Sl.v ⟨some (b, 0), 1, 1⟩) (fun _ h => by cases h) (fun w => OA_bsl (vs := [(0, .int .i64 t2)]) (cs := [.int .i64 t2]) (c0 := [.int .i64 0]) ul_109 sz_3 zc_3 (by kernel_rfl) (by decide) (by decide) (mpc rfl mpn) rfl w) ?_
     intro b31 hb
     replace H := H b31 (hP.out hb).1
     replace hP := hP.new hb (.cells #[.int .i64 t2] 3 (0, 0))
     obtain ⟨H0_, H⟩ := H
     refine JE_cho ?_ ?_
     ·
      replace H := H0_
      refine ST3 ?_
      refine JO_call Tryz.call280 (vs := [Sl.v t30_14, .int .i64 r1_0, Sl.v (⟨some (b16, 0), 1, 1⟩ : Sl)]) (mc rfl (mc rfl (mc rfl mn))) ((hP.spec H).mono ?_ (fun _ _ ⟨_, _, f⟩ => f.elim))
      rintro v Mp ⟨M, hP, r32, rfl, H⟩
      refine Kd_nil ?_
      refine JE_one ?_
      obtain ⟨t38_33, g34, H⟩ := H
      refine ST1 (fun _ h => by cases h) (fun w hs => OV_load (p := (a12.1, a12.2 + 1)) (v := Sl.v t38_33) na_109 rfl (hP.cel g34) w hs) ?_
      refine JE_one ?_
      refine ST3 ?_
      refine JO_call Tryz.call281 (vs := [Sl.v t38_33, .int .i64 r1_0, Sl.v (⟨some (b31, 0), 1, 1⟩ : Sl)]) (mc rfl (mc rfl (mc rfl mn))) ((hP.spec H).mono ?_ (fun _ _ ⟨_, _, f⟩ => f.elim))
      rintro v Mp ⟨M, hP, r35, rfl, H⟩
      refine Kd_nil ?_
      refine JE_one ?_
      refine ST0 (fun _ h => by cases h) (fun w => OV_nilCheck (p := a12) (by exact tr1 (rfl : _ = ptr t0) (congrArg ptr g13)) w) ?_
      refine JE_one ?_
      refine ST0 (fun _ h => by cases h) (fun w => OV_fieldAddr (p := a12) fo_111_0 rfl w) ?_
      refine JE_one ?_
      refine ST3 ?_
      obtain ⟨g36, H⟩ := H
      refine JO_store (p := a12) (v := Sl.v r32) sz_36 rfl rfl rfl (hP.wr g36) ?_
      replace hP := hP.sto g36 (Sl.v r32)
      refine Kd_nil ?_
      refine JE_one ?_
      refine ST0 (fun _ h => by cases h) (fun w => OV_nilCheck (p := a12) (by exact tr1 (rfl : _ = ptr t0) (congrArg ptr g13)) w) ?_
      refine JE_one ?_
      refine ST0 (fun _ h => by cases h) (fun w => OV_fieldAddr (p := a12) fo_111_1 rfl w) ?_
      refine JE_one ?_
      refine ST3 ?_
      obtain ⟨g37, H⟩ := H
      refine JO_store (p := (a12.1, a12.2 + 1)) (v := Sl.v r35) sz_109 rfl rfl rfl (hP.wr g37) ?_
      replace hP := hP.sto g37 (Sl.v r35)
      refine Kd_nil ?_
      refine JE_done ?_
      exact (show F199_1 K X _ _ from ⟨_, hD, hP, H⟩)
     refine JE_one ?_
     obtain ⟨t38_38, g39, H⟩ := H
     refine ST1 (fun _ h => by cases h) (fun w hs => OV_load (p := (a12.1, a12.2 + 1)) (v := Sl.v t38_38) na_109 rfl (hP.cel g39) w hs) ?_
     refine JE_one ?_
     refine ST3 ?_
     refine JO_call Tryz.call280 (vs := [Sl.v t30_14, .int .i64 r1_0, Sl.v (⟨some (b16, 0), 1, 1⟩ : Sl)]) (mc rfl (mc rfl (mc rfl mn))) ((hP.spec H).mono ?_ (fun _ _ ⟨_, _, f⟩ => f.elim))
     rintro v Mp ⟨M, hP, r40, rfl, H⟩
     refine Kd_nil ?_
     refine JE_one ?_
     refine ST3 ?_
     refine JO_call Tryz.call281 (vs := [Sl.v t38_38, .int .i64 r1_0, Sl.v (⟨some (b31, 0), 1, 1⟩ : Sl)]) (mc rfl (mc rfl (mc rfl mn))) ((hP.spec H).mono ?_ (fun _ _ ⟨_, _, f⟩ => f.elim))
     rintro v Mp ⟨M, hP, r41, rfl, H⟩
     refine Kd_nil ?_
     refine JE_one ?_
     refine ST0 (fun _ h => by cases h) (fun w => OV_nilCheck (p := a12) (by exact tr1 (rfl : _ = ptr t0) (congrArg ptr g13)) w) ?_
     refine JE_one ?_
     refine ST0 (fun _ h => by cases h) (fun w => OV_fieldAddr (p := a12) fo_111_0 rfl w) ?_
     refine JE_one ?_
     refine ST3 ?_
     obtain ⟨g42, H⟩ := H
     refine JO_store (p := a12) (v := Sl.v r40) sz_36 rfl rfl rfl (hP.wr g42) ?_
     replace hP := hP.sto g42 (Sl.v r40)
     refine Kd_nil ?_
     refine JE_one ?_
     refine ST0 (fun _ h => by cases h) (fun w => OV_nilCheck (p := a12) (by exact tr1 (rfl : _ = ptr t0) (congrArg ptr g13)) w) ?_
     refine JE_one ?_
     refine ST0 (fun _ h => by cases h) (fun w => OV_fieldAddr (p := a12) fo_111_1 rfl w) ?_
     refine JE_one ?_
     refine ST3 ?_
     obtain ⟨g43, H⟩ := H
     refine JO_store (p := (a12.1, a12.2 + 1)) (v := Sl.v r41) sz_109 rfl rfl rfl (hP.wr g43) ?_
     replace hP := hP.sto g43 (Sl.v r41)
     refine Kd_nil ?_
     refine JE_done ?_
     exact (show F199_1 K X _ _ from ⟨_, hD, hP, H⟩)
    obtain ⟨H0_, H⟩ := H
    refine JE_cho ?_ ?_
    ·
     replace H := H0_
     obtain ⟨t38_44, g45, H⟩ := H
     refine ST1 (fun _ h => by cases h) (fun w hs => OV_load (p := (a12.1, a12.2 + 1)) (v := Sl.v t38_44) na_109 rfl (hP.cel g45) w hs) ?_
     refine JE_one ?_
     refine ST2 (val := fun b => Sl.v ⟨some (b, 0), 1, 1⟩) (fun _ h => by cases h) (fun w => OA_bsl (vs := [(0, .string t1)]) (cs := [.string t1]) (c0 := [.string (⟨#[]⟩ : ByteArray)]) ul_36 sz_9 zc_9 (by kernel_rfl) (by decide) (by decide) (mpc rfl mpn) rfl w) ?_
     intro b46 hb
     replace H := H b46 (hP.out hb).1
     replace hP := hP.new hb (.cells #[.string t1] 9 (0, 0))
     refine JE_one ?_
     refine ST3 ?_
     refine JO_call Tryz.call280 (vs := [Sl.v t30_14, .int .i64 r1_0, Sl.v (⟨some (b46, 0), 1, 1⟩ : Sl)]) (mc rfl (mc rfl (mc rfl mn))) ((hP.spec H).mono ?_ (fun _ _ ⟨_, _, f⟩ => f.elim))
     rintro v Mp ⟨M, hP, r47, rfl, H⟩
     refine Kd_nil ?_
     refine JE_one ?_
     refine ST2 (val := fun b => Sl.v ⟨some (b, 0), 1, 1⟩) (fun _ h => by cases h) (fun w => OA_bsl (vs := [(0, .int .i64 t2)]) (cs := [.int .i64 t2]) (c0 := [.int .i64 0]) ul_109 sz_3 zc_3 (by kernel_rfl) (by decide) (by decide) (mpc rfl mpn) rfl w) ?_
     intro b48 hb
     replace H := H b48 (hP.out hb).1
     replace hP := hP.new hb (.cells #[.int .i64 t2] 3 (0, 0))
     refine JE_one ?_
     refine ST3 ?_
     refine JO_call Tryz.call281 (vs := [Sl.v t38_44, .int .i64 r1_0, Sl.v (⟨some (b48, 0), 1, 1⟩ : Sl)]) (mc rfl (mc rfl (mc rfl mn))) ((hP.spec H).mono ?_ (fun _ _ ⟨_, _, f⟩ => f.elim))
     rintro v Mp ⟨M, hP, r49, rfl, H⟩
     refine Kd_nil ?_
     refine JE_one ?_
     refine ST0 (fun _ h => by cases h) (fun w => OV_nilCheck (p := a12) (by exact tr1 (rfl : _ = ptr t0) (congrArg ptr g13)) w) ?_
     refine JE_one ?_
     refine ST0 (fun _ h => by cases h) (fun w => OV_fieldAddr (p := a12) fo_111_0 rfl w) ?_
     refine JE_one ?_
     refine ST3 ?_
     obtain ⟨g50, H⟩ := H
     refine JO_store (p := a12) (v := Sl.v r47) sz_36 rfl rfl rfl (hP.wr g50) ?_
     replace hP := hP.sto g50 (Sl.v r47)
     refine Kd_nil ?_
     refine JE_one ?_
     refine ST0 (fun _ h => by cases h) (fun w => OV_nilCheck (p := a12) (by exact tr1 (rfl : _ = ptr t0) (congrArg ptr g13)) w) ?_
     refine JE_one ?_
     refine ST0 (fun _ h => by cases h) (fun w => OV_fieldAddr (p := a12) fo_111_1 rfl w) ?_
     refine JE_one ?_
     refine ST3 ?_
     obtain ⟨g51, H⟩ := H
     refine JO_store (p := (a12.1, a12.2 + 1)) (v := Sl.v r49) sz_109 rfl rfl rfl (hP.wr g51) ?_
     replace hP := hP.sto g51 (Sl.v r49)
     refine Kd_nil ?_
     refine JE_done ?_
     exact (show F199_1 K X _ _ from ⟨_, hD, hP, H⟩)
    refine JE_one ?_
    refine ST2 (val := fun b => Sl.v ⟨some (b, 0), 1, 1⟩) (fun _ h => by cases h) (fun w => OA_bsl (vs := [(0, .int .i64 t2)]) (cs := [.int .i64 t2]) (c0 := [.int .i64 0]) ul_109 sz_3 zc_3 (by kernel_rfl) (by decide) (by decide) (mpc rfl mpn) rfl w) ?_
    intro b52 hb
    replace H := H b52 (hP.out hb).1
    replace hP := hP.new hb (.cells #[.int .i64 t2] 3 (0, 0))
    obtain ⟨H0_, H⟩ := H
    refine JE_cho ?_ ?_
    ·
     replace H := H0_
     refine ST2 (val := fun b => Sl.v ⟨some (b, 0), 1, 1⟩) (fun _ h => by cases h) (fun w => OA_bsl (vs := [(0, .string t1)]) (cs := [.string t1]) (c0 := [.string (⟨#[]⟩ : ByteArray)]) ul_36 sz_9 zc_9 (by kernel_rfl) (by decide) (by decide) (mpc rfl mpn) rfl w) ?_
     intro b53 hb
     replace H := H b53 (hP.out hb).1
     replace hP := hP.new hb (.cells #[.string t1] 9 (0, 0))
     obtain ⟨H0_, H⟩ := H
     refine JE_cho ?_ ?_
     ·
      replace H := H0_
      refine ST3 ?_
      refine JO_call Tryz.call280 (vs := [Sl.v t30_14, .int .i64 r1_0, Sl.v (⟨some (b53, 0), 1, 1⟩ : Sl)]) (mc rfl (mc rfl (mc rfl mn))) ((hP.spec H).mono ?_ (fun _ _ ⟨_, _, f⟩ => f.elim))
      rintro v Mp ⟨M, hP, r54, rfl, H⟩
      refine Kd_nil ?_
      refine JE_one ?_
      obtain ⟨t38_55, g56, H⟩ := H
      refine ST1 (fun _ h => by cases h) (fun w hs => OV_load (p := (a12.1, a12.2 + 1)) (v := Sl.v t38_55) na_109 rfl (hP.cel g56) w hs) ?_
      refine JE_one ?_
      refine ST3 ?_
      refine JO_call Tryz.call281 (vs := [Sl.v t38_55, .int .i64 r1_0, Sl.v (⟨some (b52, 0), 1, 1⟩ : Sl)]) (mc rfl (mc rfl (mc rfl mn))) ((hP.spec H).mono ?_ (fun _ _ ⟨_, _, f⟩ => f.elim))
      rintro v Mp ⟨M, hP, r57, rfl, H⟩
      refine Kd_nil ?_
      refine JE_one ?_
      refine ST0 (fun _ h => by cases h) (fun w => OV_nilCheck (p := a12) (by exact tr1 (rfl : _ = ptr t0) (congrArg ptr g13)) w) ?_
      refine JE_one ?_
      refine ST0 (fun _ h => by cases h) (fun w => OV_fieldAddr (p := a12) fo_111_0 rfl w) ?_
      refine JE_one ?_
      refine ST3 ?_
      obtain ⟨g58, H⟩ := H
      refine JO_store (p := a12) (v := Sl.v r54) sz_36 rfl rfl rfl (hP.wr g58) ?_
      replace hP := hP.sto g58 (Sl.v r54)
      refine Kd_nil ?_
      refine JE_one ?_
      refine ST0 (fun _ h => by cases h) (fun w => OV_nilCheck (p := a12) (by exact tr1 (rfl : _ = ptr t0) (congrArg ptr g13)) w) ?_
      refine JE_one ?_
      refine ST0 (fun _ h => by cases h) (fun w => OV_fieldAddr (p := a12) fo_111_1 rfl w) ?_
      refine JE_one ?_
      refine ST3 ?_
      obtain ⟨g59, H⟩ := H
      refine JO_store (p := (a12.1, a12.2 + 1)) (v := Sl.v r57) sz_109 rfl rfl rfl (hP.wr g59) ?_
      replace hP := hP.sto g59 (Sl.v r57)
      refine Kd_nil ?_
      refine JE_done ?_
      exact (show F199_1 K X _ _ from ⟨_, hD, hP, H⟩)
     refine JE_one ?_
     obtain ⟨t38_60, g61, H⟩ := H
     refine ST1 (fun _ h => by cases h) (fun w hs => OV_load (p := (a12.1, a12.2 + 1)) (v := Sl.v t38_60) na_109 rfl (hP.cel g61) w hs) ?_
     refine JE_one ?_
     refine ST3 ?_
     refine JO_call Tryz.call280 (vs := [Sl.v t30_14, .int .i64 r1_0, Sl.v (⟨some (b53, 0), 1, 1⟩ : Sl)]) (mc rfl (mc rfl (mc rfl mn))) ((hP.spec H).mono ?_ (fun _ _ ⟨_, _, f⟩ => f.elim))
     rintro v Mp ⟨M, hP, r62, rfl, H⟩
     refine Kd_nil ?_
     refine JE_one ?_
     refine ST3 ?_
     refine JO_call Tryz.call281 (vs := [Sl.v t38_60, .int .i64 r1_0, Sl.v (⟨some (b52, 0), 1, 1⟩ : Sl)]) (mc rfl (mc rfl (mc rfl mn))) ((hP.spec H).mono ?_ (fun _ _ ⟨_, _, f⟩ => f.elim))
     rintro v Mp ⟨M, hP, r63, rfl, H⟩
     refine Kd_nil ?_
     refine JE_one ?_
     refine ST0 (fun _ h => by cases h) (fun w => OV_nilCheck (p := a12) (by exact tr1 (rfl : _ = ptr t0) (congrArg ptr g13)) w) ?_
     refine JE_one ?_
     refine ST0 (fun _ h => by cases h) (fun w => OV_fieldAddr (p := a12) fo_111_0 rfl w) ?_
     refine JE_one ?_
     refine ST3 ?_
     obtain ⟨g64, H⟩ := H
     refine JO_store (p := a12) (v := Sl.v r62) sz_36 rfl rfl rfl (hP.wr g64) ?_
     replace hP := hP.sto g64 (Sl.v r62)
     refine Kd_nil ?_
     refine JE_one ?_
     refine ST0 (fun _ h => by cases h) (fun w => OV_nilCheck (p := a12) (by exact tr1 (rfl : _ = ptr t0) (congrArg ptr g13)) w) ?_
     refine JE_one ?_
     refine ST0 (fun _ h => by cases h) (fun w => OV_fieldAddr (p := a12) fo_111_1 rfl w) ?_
     refine JE_one ?_
     refine ST3 ?_
     obtain ⟨g65, H⟩ := H
     refine JO_store (p := (a12.1, a12.2 + 1)) (v := Sl.v r63) sz_109 rfl rfl rfl (hP.wr g65) ?_
     replace hP := hP.sto g65 (Sl.v r63)
     refine Kd_nil ?_
     refine JE_done ?_
     exact (show F199_1 K X _ _ from ⟨_, hD, hP, H⟩)
    refine JE_one ?_
    obtain ⟨t38_66, g67, H⟩ := H
    refine ST1 (fun _ h => by cases h) (fun w hs => OV_load (p := (a12.1, a12.2 + 1)) (v := Sl.v t38_66) na_109 rfl (hP.cel g67) w hs) ?_
    refine JE_one ?_
    refine ST2 (val := fun b => Sl.v ⟨some (b, 0), 1, 1⟩) (fun _ h => by cases h) (fun w => OA_bsl (vs := [(0, .string t1)]) (cs := [.string t1]) (c0 := [.string (⟨#[]⟩ : ByteArray)]) ul_36 sz_9 zc_9 (by kernel_rfl) (by decide) (by decide) (mpc rfl mpn) rfl w) ?_
    intro b68 hb
    replace H := H b68 (hP.out hb).1
    replace hP := hP.new hb (.cells #[.string t1] 9 (0, 0))
    refine JE_one ?_
    refine ST3 ?_
    refine JO_call Tryz.call280 (vs := [Sl.v t30_14, .int .i64 r1_0, Sl.v (⟨some (b68, 0), 1, 1⟩ : Sl)]) (mc rfl (mc rfl (mc rfl mn))) ((hP.spec H).mono ?_ (fun _ _ ⟨_, _, f⟩ => f.elim))
    rintro v Mp ⟨M, hP, r69, rfl, H⟩
    refine Kd_nil ?_
    refine JE_one ?_
    refine ST3 ?_
    refine JO_call Tryz.call281 (vs := [Sl.v t38_66, .int .i64 r1_0, Sl.v (⟨some (b52, 0), 1, 1⟩ : Sl)]) (mc rfl (mc rfl (mc rfl mn))) ((hP.spec H).mono ?_ (fun _ _ ⟨_, _, f⟩ => f.elim))
    rintro v Mp ⟨M, hP, r70, rfl, H⟩
    refine Kd_nil ?_
    refine JE_one ?_
    refine ST0 (fun _ h => by cases h) (fun w => OV_nilCheck (p := a12) (by exact tr1 (rfl : _ = ptr t0) (congrArg ptr g13)) w) ?_
    refine JE_one ?_
    refine ST0 (fun _ h => by cases h) (fun w => OV_fieldAddr (p := a12) fo_111_0 rfl w) ?_
    refine JE_one ?_
    refine ST3 ?_
    obtain ⟨g71, H⟩ := H
    refine JO_store (p := a12) (v := Sl.v r69) sz_36 rfl rfl rfl (hP.wr g71) ?_
    replace hP := hP.sto g71 (Sl.v r69)
    refine Kd_nil ?_
    refine JE_one ?_
    refine ST0 (fun _ h => by cases h) (fun w => OV_nilCheck (p := a12) (by exact tr1 (rfl : _ = ptr t0) (congrArg ptr g13)) w) ?_
    refine JE_one ?_
    refine ST0 (fun _ h => by cases h) (fun w => OV_fieldAddr (p := a12) fo_111_1 rfl w) ?_
    refine JE_one ?_
    refine ST3 ?_
    obtain ⟨g72, H⟩ := H
    refine JO_store (p := (a12.1, a12.2 + 1)) (v := Sl.v r70) sz_109 rfl rfl rfl (hP.wr g72) ?_
    replace hP := hP.sto g72 (Sl.v r70)
    refine Kd_nil ?_
    refine JE_done ?_
    exact (show F199_1 K X _ _ from ⟨_, hD, hP, H⟩)
   ·
    rintro e Mp ⟨M, hD, hP, H⟩
    unfold S199_1 at H
    refine J_seq ?_
    refine J_region (by decide) ?_
    refine JO_assign (v := .bool true) rfl ?_
    refine JO_nil ?_
    exact J_ret (kret (pan := X)  hD (fun _ _ hb => hP.sub hb) (resOk (rs := [.tmp 6]) (vs := [.bool true]) rfl ⟨item_tmp rfl, trivial⟩) ⟨true, rfl, H⟩)

/-! (*brazier/cas.Store).all$1 -/
def S203_3 (t8_ : Int) (b5_c0 : ByteArray) (b5_c1 : Bool) (b5_c2 : Bool) (b5_c3 : Sl) (b5_c4 : Sl) (t0_ : Value) (t1_ : Option PA) (t2_ : Option PA) (K : Mem → Prop) (X : List PanicEntry → Mem → Prop) (next2 : Int → Mem → Prop) : Mem → Prop :=
 callV t0_ [.agg #[.string b5_c0, .bool b5_c1, .bool b5_c2, Sl.v b5_c3, Sl.v b5_c4]] X fun v_ M => ∃ (r23 : Bool), v_ = .bool r23 ∧ ( ite' (!r23) (K) (next2 (IntKind.wrap .i64 (t8_ + 1)))) M
def S203_1 (K : Mem → Prop) (X : List PanicEntry → Mem → Prop) : Mem → Prop :=
 K
def S203_2b (t0_ : Value) (t1_ : Option PA) (t2_ : Option PA) (K : Mem → Prop) (X : List PanicEntry → Mem → Prop) (t8_ : Int) (next2 : Int → Mem → Prop) : Mem → Prop :=
 ite' (decide (t8_ < 8)) (nn t1_ fun a1 => ldL a1 fun t11_3 => nn t2_ fun a5 => ldP a5 fun t12_7 => nn t12_7 fun a9 => ldI .i64 (a9.1, a9.2 + 1) fun t15_11 => callK 119 [Sl.v t11_3, .int .i64 t15_11, .int .i64 t8_] fun v_ M => ∃ (r13 : ByteArray), v_ = .string r13 ∧ ( ldP a5 fun t20_15 => nn t20_15 fun a17 => ldP a17 fun t23_19 => call 16 [ptr t23_19, .string r13] (fun _ _ => False) fun v_ M => ∃ (r21_0 : Sl) (r21_1 : Int), v_ = .tuple #[Sl.v r21_0, .int .i64 r21_1] ∧ ( ite' (r21_1 == 0) (call 17 [Sl.v r21_0] X fun v_ M => ∃ (r22_0 : Sl) (r22_1 : Sl) (r22_2 : Bool), v_ = .tuple #[Sl.v r22_0, Sl.v r22_1, .bool r22_2] ∧ ( S203_3 t8_ r13 (r21_1 == 0) r22_2 r22_0 r22_1 t0_ t1_ t2_ K X next2) M) (S203_3 t8_ r13 (r21_1 == 0) false (⟨none, 0, 0⟩ : Sl) (⟨none, 0, 0⟩ : Sl) t0_ t1_ t2_ K X next2)) M) M) (S203_1 K X)
def S203_2 (t0_ : Value) (t1_ : Option PA) (t2_ : Option PA) (t8_ : Int) (K : Mem → Prop) (X : List PanicEntry → Mem → Prop) : Mem → Prop :=
 Lp (fun (s_ : Int) next2 => S203_2b t0_ t1_ t2_ K X s_ next2) t8_
def S203 (t0 : Value) (t1 : Option PA) (t2 : Option PA) (K : Mem → Prop) (X : List PanicEntry → Mem → Prop) : Mem → Prop :=
 S203_2 t0 t1 t2 0 K X
abbrev F203_3 (t0_ : Value) (t1_ : Option PA) (t2_ : Option PA) (K : Mem → Prop) (X : List PanicEntry → Mem → Prop) (next2 : Int → Mem → Prop) (e : Env) (Mp : Mem) : Prop := ∃ (b5_ : Nat) (t8_ : Int) (b5_c0 : ByteArray) (b5_c1 : Bool) (b5_c2 : Bool) (b5_c3 : Sl) (b5_c4 : Sl) (M : Mem), e.D = [] ∧ e.v 0 = t0_ ∧ e.v 1 = ptr t1_ ∧ e.v 2 = ptr t2_ ∧ e.v 5 = ptr (some (b5_, 0)) ∧ e.v 8 = .int .i64 t8_ ∧ Pv M [(b5_, .cells #[.string b5_c0, .bool b5_c1, .bool b5_c2, Sl.v b5_c3, Sl.v b5_c4] 125 (0, 0))] Mp ∧ S203_3 t8_ b5_c0 b5_c1 b5_c2 b5_c3 b5_c4 t0_ t1_ t2_ K X next2 M
abbrev F203_2 (K : Mem → Prop) (X : List PanicEntry → Mem → Prop) (e : Env) (Mp : Mem) : Prop := ∃ (t0_ : Value) (t1_ : Option PA) (t2_ : Option PA) (t8_ : Int) (M : Mem), e.D = [] ∧ e.v 0 = t0_ ∧ e.v 1 = ptr t1_ ∧ e.v 2 = ptr t2_ ∧ e.v 8 = .int .i64 t8_ ∧ Pv M [] Mp ∧ S203_2 t0_ t1_ t2_ t8_ K X M
abbrev F203_1 (K : Mem → Prop) (X : List PanicEntry → Mem → Prop) (e : Env) (Mp : Mem) : Prop := ∃ (M : Mem), e.D = [] ∧ Pv M [] Mp ∧ S203_1  K X M
theorem br203 {t0 : Value} {t1 : Option PA} {t2 : Option PA} {K : Mem → Prop} {X : List PanicEntry → Mem → Prop} {M : Mem} (H : S203 t0 t1 t2 K X M) :
  Spec Tryz.prog 203 #[t0, ptr t1, ptr t2] M (fun _ M => K M) X := by
 refine spec_of_J (args := [t0, ptr t1, ptr t2]) Tryz.func203 rfl Tryz.ntmps203 (Nat.le_of_ble_eq_true rfl) ?_
 have hD : (⟨fun i => ([t0, ptr t1, ptr t2] : List Value).getD i undef, []⟩ : Env).D = [] := rfl
 have hP := Pv.nil M
 have hX := @kx_of Tryz.prog Tryz.f203 (fun _ M => K M) X
 unfold S203 at H
 refine J_seq ?_
 refine J_region (by decide) ?_
 refine JO_move (v := .int .i64 0) rfl ?_
 refine JO_nil ?_
 refine J_blockF (F203_1 K X) ?_ ?_
 ·
  refine J_of (F203_2 K X) (show F203_2 K X _ _ from ⟨t0, t1, t2, 0, _, hD, rfl, rfl, rfl, rfl, hP, H⟩) ?_
  rintro e Mp ⟨t0_, t1_, t2_, t8_, M, hD, h0, h1, h2, h8, hP, H⟩
  unfold S203_2 at H
  refine J_loopP (σ := Int) (body := fun (s_ : Int) next2 => S203_2b t0_ t1_ t2_ K X s_ next2) (s := t8_) (M := M) (fun (s_ : Int) (e : Env) (M Mp : Mem) => e.D = [] ∧ e.v 0 = t0_ ∧ e.v 1 = ptr t1_ ∧ e.v 2 = ptr t2_ ∧ e.v 8 = .int .i64 s_ ∧ Pv M [] Mp) ?_ ⟨hD, h0, h1, h2, h8, hP⟩ H
  rintro next2 t8_ e M Mp ⟨hD, h0, h1, h2, h8, hP⟩ H
  replace H : S203_2b t0_ t1_ t2_ K X t8_ next2 M := H
  unfold S203_2b at H
  refine J_seq ?_
  refine J_region (by decide) ?_
  refine JO_iop (op := .lss) (k := .i64) (a := t8_) (b := 8) h8 rfl trivial ?_
  refine JO_nil ?_
  refine J_seq ?_
  refine J_cond (t := decide (t8_ < 8)) rfl (fun hc_ => ?_) (fun hc_ => ?_)
  ·
   replace H := H.1 hc_
   clear hc_
   refine J_skip ?_
   refine J_seq ?_
   refine J_block ?_
   refine J_seq ?_
   refine J_region (by decide) ?_
   refine JO_move (v := .int .i64 t8_) h8 ?_
   refine JO_assign (v := .int .i64 t8_) rfl ?_
   refine JO_nil ?_
   refine J_seq ?_
   refine J_draw [1, 1, 0, 0, 1, 0, 4, 0, 2, 3] (.cho 5 (.cho 0 (.cho 1 (.cho 2 (.cho 3 (.cho 4 (.cho 6 (.cho 7 (.cho 8 (.cho 9 .done .none) .none) .none) .none) .none) .none) .none) .none) .none) .none) rfl (by kernel_rfl) ?_
   refine JE_one ?_
   refine ST0 (fun _ h => by cases h) (fun w => OV_move (v := .int .i64 t8_) rfl w) ?_
   refine JE_one ?_
   obtain ⟨a1, g2, H⟩ := H
   obtain ⟨t11_3, g4, H⟩ := H
   refine ST1 (fun _ h => by cases h) (fun w hs => OV_load (p := a1) (v := Sl.v t11_3) na_32 (by exact tr1 (by exact h1) (congrArg ptr g2)) (hP.cel g4) w hs) ?_
   refine JE_one ?_
   obtain ⟨a5, g6, H⟩ := H
   obtain ⟨t12_7, g8, H⟩ := H
   refine ST1 (fun _ h => by cases h) (fun w hs => OV_load (p := a5) (v := ptr t12_7) na_28 (by exact tr1 (by exact h2) (congrArg ptr g6)) (hP.cel g8) w hs) ?_
   refine JE_one ?_
   obtain ⟨a9, g10, H⟩ := H
   refine ST0 (fun _ h => by cases h) (fun w => OV_nilCheck (p := a9) (by exact tr1 (rfl : _ = ptr t12_7) (congrArg ptr g10)) w) ?_
   refine JE_one ?_
   refine ST0 (fun _ h => by cases h) (fun w => OV_fieldAddr (p := a9) fo_117_1 rfl w) ?_
   refine JE_one ?_
   obtain ⟨t15_11, g12, H⟩ := H
   refine ST1 (fun _ h => by cases h) (fun w hs => OV_load (p := (a9.1, a9.2 + 1)) (v := .int .i64 t15_11) na_3 rfl (hP.cel g12) w hs) ?_
   refine JE_one ?_
   refine ST4 ?_
   refine JO_call Tryz.call119 (vs := [Sl.v t11_3, .int .i64 t15_11, .int .i64 t8_]) (mc rfl (mc rfl (mc rfl mn))) ((hP.specK H).mono ?_ (fun _ _ ⟨_, _, f⟩ => f.elim))
   rintro rv_ Mp ⟨M, hP', hk_, r13, rfl, H⟩
   refine Kd_nil ?_
   refine And.intro hk_ ?_
   replace hP := hP'
   refine JE_one ?_
   refine ST0 (fun _ h => by cases h) (fun w => OV_bld (vs := [(0, .string r13)]) (cs := [.string r13, .bool false, .bool false, Sl.v (⟨none, 0, 0⟩ : Sl), Sl.v (⟨none, 0, 0⟩ : Sl)]) pl_125 zc_125 (mpc rfl mpn) rfl w) ?_
   refine JE_one ?_
   refine ST2 (val := fun b => ptr (some (b, 0))) (fun _ h => by cases h) (fun w => OA_alloc (cs := [.string (⟨#[]⟩ : ByteArray), .bool false, .bool false, Sl.v (⟨none, 0, 0⟩ : Sl), Sl.v (⟨none, 0, 0⟩ : Sl)]) zc_125 w) ?_
   intro b14 hb
   replace hP : Pv _ [(b14, .cells #[.string (⟨#[]⟩ : ByteArray), .bool false, .bool false, Sl.v (⟨none, 0, 0⟩ : Sl), Sl.v (⟨none, 0, 0⟩ : Sl)] 125 (0, 0))] _ := hP.box hb _
   refine JE_one ?_
   refine ST3 ?_
   refine JO_storeAgg (p := (b14, 0)) (cs := [.string r13, .bool false, .bool false, Sl.v (⟨none, 0, 0⟩ : Sl), Sl.v (⟨none, 0, 0⟩ : Sl)]) sz_125 rfl rfl (all_cons rfl (all_cons rfl (all_cons rfl (all_cons rfl (all_cons rfl all_nil))))) (fun j hj => wrOf (hP.get 0 rfl) (by simp at hj ⊢; omega) (by simp)) ?_
   replace hP : Pv _ [(b14, .cells #[.string r13, .bool false, .bool false, Sl.v (⟨none, 0, 0⟩ : Sl), Sl.v (⟨none, 0, 0⟩ : Sl)] 125 (0, 0))] _ := Pv.stosL (i := 0) [.string r13, .bool false, .bool false, Sl.v (⟨none, 0, 0⟩ : Sl), Sl.v (⟨none, 0, 0⟩ : Sl)] [.string (⟨#[]⟩ : ByteArray), .bool false, .bool false, Sl.v (⟨none, 0, 0⟩ : Sl), Sl.v (⟨none, 0, 0⟩ : Sl)] 0 _ _ hP rfl
   refine Kd_nil ?_
   refine JE_done ?_
   refine J_seq ?_
   refine J_draw [1, 0, 0, 1, 0, 1, 3, 0, 0, 0, 0, 0] (.cho 4 (.cho 0 (.cho 1 (.cho 2 (.cho 3 (.cho 5 (.cho 6 (.cho 7 (.cho 8 (.cho 9 (.cho 10 (.cho 11 .done .none) .none) .none) .none) .none) .none) .none) .none) .none) .none) .none) .none) rfl (by kernel_rfl) ?_
   refine JE_one ?_
   refine ST0 (fun _ h => by cases h) (fun w => OV_fieldAddr (p := (b14, 0)) fo_125_0 rfl w) ?_
   refine JE_one ?_
   obtain ⟨t20_15, g16, H⟩ := H
   refine ST1 (fun _ h => by cases h) (fun w hs => OV_load (p := a5) (v := ptr t20_15) na_28 (by exact tr1 (by exact h2) (congrArg ptr g6)) (hP.cel g16) w hs) ?_
   refine JE_one ?_
   obtain ⟨a17, g18, H⟩ := H
   refine ST0 (fun _ h => by cases h) (fun w => OV_nilCheck (p := a17) (by exact tr1 (rfl : _ = ptr t20_15) (congrArg ptr g18)) w) ?_
   refine JE_one ?_
   refine ST0 (fun _ h => by cases h) (fun w => OV_fieldAddr (p := a17) fo_117_0 rfl w) ?_
   refine JE_one ?_
   obtain ⟨t23_19, g20, H⟩ := H
   refine ST1 (fun _ h => by cases h) (fun w hs => OV_load (p := a17) (v := ptr t23_19) na_26 rfl (hP.cel g20) w hs) ?_
   refine JE_one ?_
   refine ST1 (fun _ h => by cases h) (fun w hs => OV_load (p := (b14, 0)) (v := .string r13) na_9 rfl (celOf (hP.get 0 rfl) rfl) w hs) ?_
   refine JE_one ?_
   refine ST3 ?_
   refine JO_call Tryz.call16 (vs := [ptr t23_19, .string r13]) (mc rfl (mc rfl mn)) ((hP.spec H).mono ?_ (fun _ _ ⟨_, _, f⟩ => f.elim))
   rintro v Mp ⟨M, hP, r21_0, r21_1, rfl, H⟩
   refine Kd_nil ?_
   refine JE_one ?_
   refine ST0 (fun _ h => by cases h) (fun w => OV_move (v := .tuple #[Sl.v r21_0, .int .i64 r21_1]) rfl w) ?_
   refine JE_one ?_
   refine ST0 (fun _ h => by cases h) (fun w => OV_extract (vs := #[Sl.v r21_0, .int .i64 r21_1]) (v := Sl.v r21_0) rfl rfl w) ?_
   refine JE_one ?_
   refine ST0 (fun _ h => by cases h) (fun w => OV_extract (vs := #[Sl.v r21_0, .int .i64 r21_1]) (v := .int .i64 r21_1) rfl rfl w) ?_
   refine JE_one ?_
   refine ST0 (fun _ h => by cases h) (fun w => OV_assign (v := Sl.v r21_0) rfl w) ?_
   refine JE_one ?_
   refine ST0 (fun _ h => by cases h) (fun w => OV_assign (v := .int .i64 r21_1) rfl w) ?_
   refine JE_done ?_
   refine J_seqF (F203_3 t0_ t1_ t2_ K X next2) ?_ ?_
   ·
    refine J_seq ?_
    refine J_region (by decide) ?_
    refine JO_move (v := .int .i64 r21_1) rfl ?_
    refine JO_iop (op := .eql) (k := .i64) (a := r21_1) (b := 0) rfl rfl trivial ?_
    refine JO_fieldAddr (p := (b14, 0)) fo_125_1 rfl ?_
    refine JO_store (p := (b14, 1)) (v := .bool (r21_1 == 0)) sz_4 rfl rfl rfl (wrOf (hP.get 0 rfl) (Nat.le_of_ble_eq_true rfl) (by decide)) ?_
    replace hP : Pv _ [(b14, .cells #[.string r13, .bool (r21_1 == 0), .bool false, Sl.v (⟨none, 0, 0⟩ : Sl), Sl.v (⟨none, 0, 0⟩ : Sl)] 125 (0, 0))] _ := hP.sto1 0 (off := 1) rfl (.bool (r21_1 == 0))
    refine JO_nil ?_
    refine J_seq ?_
    refine J_region (by decide) ?_
    refine JO_fieldAddr (p := (b14, 0)) fo_125_1 rfl ?_
    refine JO_load (p := (b14, 1)) (v := .bool (r21_1 == 0)) na_4 rfl (celOf (hP.get 0 rfl) rfl) ?_
    refine JO_nil ?_
    refine J_cond (t := r21_1 == 0) rfl (fun hc_ => ?_) (fun hc_ => ?_)
    ·
     replace H := H.1 hc_
     clear hc_
     refine J_region (by decide) ?_
     refine JO_move (v := Sl.v r21_0) rfl ?_
     refine JO_call Tryz.call17 (vs := [Sl.v r21_0]) (mc rfl mn) ((hP.spec H).mono ?_ (fun ch Mp h => hX hD h))
     rintro v Mp ⟨M, hP, r22_0, r22_1, r22_2, rfl, H⟩
     refine JO_move (v := .tuple #[Sl.v r22_0, Sl.v r22_1, .bool r22_2]) rfl ?_
     refine JO_extract (vs := #[Sl.v r22_0, Sl.v r22_1, .bool r22_2]) (v := Sl.v r22_0) rfl rfl ?_
     refine JO_extract (vs := #[Sl.v r22_0, Sl.v r22_1, .bool r22_2]) (v := Sl.v r22_1) rfl rfl ?_
     refine JO_extract (vs := #[Sl.v r22_0, Sl.v r22_1, .bool r22_2]) (v := .bool r22_2) rfl rfl ?_
     refine JO_fieldAddr (p := (b14, 0)) fo_125_3 rfl ?_
     refine JO_store (p := (b14, 3)) (v := Sl.v r22_0) sz_32 rfl rfl rfl (wrOf (hP.get 0 rfl) (Nat.le_of_ble_eq_true rfl) (by decide)) ?_
     replace hP : Pv _ [(b14, .cells #[.string r13, .bool (r21_1 == 0), .bool false, Sl.v r22_0, Sl.v (⟨none, 0, 0⟩ : Sl)] 125 (0, 0))] _ := hP.sto1 0 (off := 3) rfl (Sl.v r22_0)
     refine JO_fieldAddr (p := (b14, 0)) fo_125_4 rfl ?_
     refine JO_store (p := (b14, 4)) (v := Sl.v r22_1) sz_32 rfl rfl rfl (wrOf (hP.get 0 rfl) (Nat.le_of_ble_eq_true rfl) (by decide)) ?_
     replace hP : Pv _ [(b14, .cells #[.string r13, .bool (r21_1 == 0), .bool false, Sl.v r22_0, Sl.v r22_1] 125 (0, 0))] _ := hP.sto1 0 (off := 4) rfl (Sl.v r22_1)
     refine JO_fieldAddr (p := (b14, 0)) fo_125_2 rfl ?_
     refine JO_store (p := (b14, 2)) (v := .bool r22_2) sz_4 rfl rfl rfl (wrOf (hP.get 0 rfl) (Nat.le_of_ble_eq_true rfl) (by decide)) ?_
     replace hP : Pv _ [(b14, .cells #[.string r13, .bool (r21_1 == 0), .bool r22_2, Sl.v r22_0, Sl.v r22_1] 125 (0, 0))] _ := hP.sto1 0 (off := 2) rfl (.bool r22_2)
     refine JO_nil ?_
     exact (show F203_3 t0_ t1_ t2_ K X next2 _ _ from ⟨b14, t8_, r13, r21_1 == 0, r22_2, r22_0, r22_1, _, hD, h0, h1, h2, rfl, h8, hP, H⟩)
    ·
     replace H := H.2 hc_
     clear hc_
     refine J_skip ?_
     exact (show F203_3 t0_ t1_ t2_ K X next2 _ _ from ⟨b14, t8_, r13, r21_1 == 0, false, (⟨none, 0, 0⟩ : Sl), (⟨none, 0, 0⟩ : Sl), _, hD, h0, h1, h2, rfl, h8, hP, H⟩)
   ·
    rintro e Mp ⟨b5_, t8_, b5_c0, b5_c1, b5_c2, b5_c3, b5_c4, M, hD, h0, h1, h2, h5, h8, hP, H⟩
    unfold S203_3 at H
    refine J_seq ?_
    refine J_region (by decide) ?_
    refine JO_move (v := t0_) h0 ?_
    refine JO_loadAgg (p := (b5_, 0)) (cs := [.string b5_c0, .bool b5_c1, .bool b5_c2, Sl.v b5_c3, Sl.v b5_c4]) ag_125 (Nat.succ_pos _) h5 (cels_of (b := b5_) (o := 0) ⟨celOf (hP.get 0 rfl) rfl, celOf (hP.get 0 rfl) rfl, celOf (hP.get 0 rfl) rfl, celOf (hP.get 0 rfl) rfl, celOf (hP.get 0 rfl) rfl, trivial⟩) ?_
    refine JO_callV (vs := [.agg #[.string b5_c0, .bool b5_c1, .bool b5_c2, Sl.v b5_c3, Sl.v b5_c4]]) rfl (mc rfl mn) ((hP.callV (H _)).mono ?_ (fun ch Mp h => hX hD h))
    rintro v Mp ⟨M, hP, r23, rfl, H⟩
    refine JO_not (b := r23) rfl ?_
    refine JO_nil ?_
    refine J_cond (t := !r23) rfl (fun hc_ => ?_) (fun hc_ => ?_)
    ·
     replace H := H.1 hc_
     clear hc_
     exact J_ret (kret (pan := X)  hD (fun _ _ hb => hP.sub hb) (resOk (rs := []) (vs := []) rfl trivial) H)
    ·
     replace H := H.2 hc_
     clear hc_
     refine J_skip ?_
     refine J_region (by decide) ?_
     refine JO_iop (op := .add) (k := .i64) (a := t8_) (b := 1) h8 rfl trivial ?_
     refine JO_move (v := .int .i64 (IntKind.wrap .i64 (t8_ + 1))) rfl ?_
     refine JO_nil ?_
     exact ⟨IntKind.wrap .i64 (t8_ + 1), _, ⟨hD, h0, h1, h2, rfl, (hP.drop 0)⟩, H⟩
  ·
   replace H := H.2 hc_
   clear hc_
   refine J_exit ?_
   exact (show F203_1 K X _ _ from ⟨_, hD, hP, H⟩)
 ·
  rintro e Mp ⟨M, hD, hP, H⟩
  unfold S203_1 at H
  exact (kend (pan := X)  hD (fun _ _ hb => hP.sub hb) (resOk (rs := []) (vs := []) rfl trivial) H)

/-! brazier/wal.frames$1 -/
def S207_2 (t3_ : Sl) (t17_ : Bool) (t0_ : Value) (t1_ : Option PA) (K : Mem → Prop) (X : List PanicEntry → Mem → Prop) (next1 : Unit → Mem → Prop) : Mem → Prop :=
 ite' t17_ (K) (nn t1_ fun a9 => ldL a9 fun t18_11 => must (0 ≤ IntKind.wrap .i64 ((t3_.n : Int) + 8) ∧ IntKind.wrap .i64 ((t3_.n : Int) + 8) ≤ (t18_11.n : Int) ∧ True ∧ (t18_11.c : Int) ≤ (t18_11.c : Int)) <| st a9 (Sl.v (Sl.cut t18_11 1 (IntKind.wrap .i64 ((t3_.n : Int) + 8)) (t18_11.n : Int) (t18_11.c : Int))) <| next1 ())
def S207_1b (t0_ : Value) (t1_ : Option PA) (K : Mem → Prop) (X : List PanicEntry → Mem → Prop) (next1 : Unit → Mem → Prop) : Mem → Prop :=
 nn t1_ fun a1 => ldL a1 fun t6_3 => call 208 [Sl.v t6_3] X fun v_ M => ∃ (r5_0 : Sl) (r5_1 : Bool), v_ = .tuple #[Sl.v r5_0, .bool r5_1] ∧ ( ite' (!r5_1) (S207_2 r5_0 true t0_ t1_ K X next1) (callV t0_ [Sl.v r5_0] X fun v_ M => ∃ (r7 : Bool), v_ = .bool r7 ∧ ( S207_2 r5_0 (!r7) t0_ t1_ K X next1) M)) M
def S207_1 (t0_ : Value) (t1_ : Option PA) (K : Mem → Prop) (X : List PanicEntry → Mem → Prop) : Mem → Prop :=
 Lp (fun (s_ : Unit) next1 => S207_1b t0_ t1_ K X next1) ()
def S207 (t0 : Value) (t1 : Option PA) (K : Mem → Prop) (X : List PanicEntry → Mem → Prop) : Mem → Prop :=
 S207_1 t0 t1 K X
abbrev F207_2 (t0_ : Value) (t1_ : Option PA) (K : Mem → Prop) (X : List PanicEntry → Mem → Prop) (next1 : Unit → Mem → Prop) (e : Env) (Mp : Mem) : Prop := ∃ (t3_ : Sl) (t17_ : Bool) (M : Mem), e.D = [] ∧ e.v 0 = t0_ ∧ e.v 1 = ptr t1_ ∧ e.v 3 = Sl.v t3_ ∧ e.v 17 = .bool t17_ ∧ Pv M [] Mp ∧ S207_2 t3_ t17_ t0_ t1_ K X next1 M
abbrev F207_1 (K : Mem → Prop) (X : List PanicEntry → Mem → Prop) (e : Env) (Mp : Mem) : Prop := ∃ (t0_ : Value) (t1_ : Option PA) (M : Mem), e.D = [] ∧ e.v 0 = t0_ ∧ e.v 1 = ptr t1_ ∧ Pv M [] Mp ∧ S207_1 t0_ t1_ K X M
theorem br207 {t0 : Value} {t1 : Option PA} {K : Mem → Prop} {X : List PanicEntry → Mem → Prop} {M : Mem} (H : S207 t0 t1 K X M) :
  Spec Tryz.prog 207 #[t0, ptr t1] M (fun _ M => K M) X := by
 refine spec_of_J (args := [t0, ptr t1]) Tryz.func207 rfl Tryz.ntmps207 (Nat.le_of_ble_eq_true rfl) ?_
 have hD : (⟨fun i => ([t0, ptr t1] : List Value).getD i undef, []⟩ : Env).D = [] := rfl
 have hP := Pv.nil M
 have hX := @kx_of Tryz.prog Tryz.f207 (fun _ M => K M) X
 unfold S207 at H
 refine J_block ?_
 refine J_of (F207_1 K X) (show F207_1 K X _ _ from ⟨t0, t1, _, hD, rfl, rfl, hP, H⟩) ?_
 rintro e Mp ⟨t0_, t1_, M, hD, h0, h1, hP, H⟩
 unfold S207_1 at H
 refine J_loopP (σ := Unit) (body := fun (s_ : Unit) next1 => S207_1b t0_ t1_ K X next1) (s := ()) (M := M) (fun (s_ : Unit) (e : Env) (M Mp : Mem) => e.D = [] ∧ e.v 0 = t0_ ∧ e.v 1 = ptr t1_ ∧ Pv M [] Mp) ?_ ⟨hD, h0, h1, hP⟩ H
 rintro next1 _ e M Mp ⟨hD, h0, h1, hP⟩ H
 replace H : S207_1b t0_ t1_ K X next1 M := H
 unfold S207_1b at H
 refine J_block ?_
 refine J_seq ?_
 refine J_region (by decide) ?_
 obtain ⟨a1, g2, H⟩ := H
 obtain ⟨t6_3, g4, H⟩ := H
 refine JO_load (p := a1) (v := Sl.v t6_3) na_32 (tr1 h1 (congrArg ptr g2)) (hP.cel g4) ?_
 refine JO_call Tryz.call208 (vs := [Sl.v t6_3]) (mc rfl mn) ((hP.spec H).mono ?_ (fun ch Mp h => hX hD h))
 rintro v Mp ⟨M, hP, r5_0, r5_1, rfl, H⟩
 refine JO_move (v := .tuple #[Sl.v r5_0, .bool r5_1]) rfl ?_
 refine JO_extract (vs := #[Sl.v r5_0, .bool r5_1]) (v := Sl.v r5_0) rfl rfl ?_
 refine JO_extract (vs := #[Sl.v r5_0, .bool r5_1]) (v := .bool r5_1) rfl rfl ?_
 refine JO_assign (v := Sl.v r5_0) rfl ?_
 refine JO_assign (v := .bool r5_1) rfl ?_
 refine JO_nil ?_
 refine J_seq ?_
 refine J_seq ?_
 refine J_region (by decide) ?_
 refine JO_move (v := .bool r5_1) rfl ?_
 refine JO_not (b := r5_1) rfl ?_
 refine JO_move (v := .bool (!r5_1)) rfl ?_
 refine JO_cut 5 (F207_2 t0_ t1_ K X next1) ?_ ?_
 ·
  obtain ⟨H1, H2⟩ := H
  obtain hc_ | hc_ := ff_or_tt (!r5_1)
  ·
   replace H := H2 hc_
   clear H1 H2
   have hg6 := (congrArg Value.bool hc_ : Value.bool (!r5_1) = Value.bool false)
   refine JO_on (s := 12) hg6 ?_
   refine JO_move (v := t0_) h0 ?_
   refine JO_on (s := 12) hg6 ?_
   refine JO_move (v := Sl.v r5_0) rfl ?_
   refine JO_on (s := 12) hg6 ?_
   refine JO_callV (vs := [Sl.v r5_0]) rfl (mc rfl mn) ((hP.callV (H _)).mono ?_ (fun ch Mp h => hX hD h))
   rintro v Mp ⟨M, hP, r7, rfl, H⟩
   refine JO_on (s := 12) hg6 ?_
   refine JO_not (b := r7) rfl ?_
   refine JO_pick (b := false) (v := .bool (!r7)) hg6 rfl ?_
   refine JO_nil ?_
   exact (show F207_2 t0_ t1_ K X next1 _ _ from ⟨r5_0, !r7, _, hD, h0, h1, rfl, rfl, hP, H⟩)
  ·
   replace H := H1 hc_
   clear H1 H2
   have hg8 := (congrArg Value.bool hc_ : Value.bool (!r5_1) = Value.bool true)
   refine JO_off (s := 12) (c := true) hg8 (by decide) ?_
   refine JO_off (s := 12) (c := true) hg8 (by decide) ?_
   refine JO_off (s := 12) (c := true) hg8 (by decide) ?_
   refine JO_off (s := 12) (c := true) hg8 (by decide) ?_
   refine JO_pick (b := true) (v := .bool true) hg8 rfl ?_
   refine JO_nil ?_
   exact (show F207_2 t0_ t1_ K X next1 _ _ from ⟨r5_0, true, _, hD, h0, h1, rfl, rfl, hP, H⟩)
 ·
  rintro e Mp ⟨t3_, t17_, M, hD, h0, h1, h3, h17, hP, H⟩
  unfold S207_2 at H
  refine JO_nil ?_
  refine J_cond (t := t17_) h17 (fun hc_ => ?_) (fun hc_ => ?_)
  ·
   replace H := H.1 hc_
   clear hc_
   exact J_ret (kret (pan := X)  hD (fun _ _ hb => hP.sub hb) (resOk (rs := []) (vs := []) rfl trivial) H)
  ·
   replace H := H.2 hc_
   clear hc_
   refine J_skip ?_
   refine J_region (by decide) ?_
   obtain ⟨a9, g10, H⟩ := H
   obtain ⟨t18_11, g12, H⟩ := H
   refine JO_load (p := a9) (v := Sl.v t18_11) na_32 (tr1 h1 (congrArg ptr g10)) (hP.cel g12) ?_
   refine JO_move (v := Sl.v t3_) h3 ?_
   refine JO_len (s := t3_) is_32 rfl ?_
   refine JO_iop (op := .add) (k := .i64) (a := (t3_.n : Int)) (b := 8) rfl rfl trivial ?_
   obtain ⟨g13, H⟩ := H
   refine JO_slice (s := t18_11) (l := IntKind.wrap .i64 ((t3_.n : Int) + 8)) (h := (t18_11.n : Int)) (m := (t18_11.c : Int)) es_32 rfl rfl rfl ⟨_, rfl⟩ g13.1 g13.2.1 (by simp) g13.2.2.2 (by simp) ?_
   obtain ⟨g14, H⟩ := H
   refine JO_store (p := a9) (v := Sl.v (Sl.cut t18_11 1 (IntKind.wrap .i64 ((t3_.n : Int) + 8)) (t18_11.n : Int) (t18_11.c : Int))) sz_32 (tr1 h1 (congrArg ptr g10)) rfl rfl (hP.wr g14) ?_
   replace hP := hP.sto g14 (Sl.v (Sl.cut t18_11 1 (IntKind.wrap .i64 ((t3_.n : Int) + 8)) (t18_11.n : Int) (t18_11.c : Int)))
   refine JO_nil ?_
   exact ⟨(), _, ⟨hD, h0, h1, hP⟩, H⟩

/-! brazier/digest.Sha -/
def S277 (t0 : Sl) (K : List Value → Mem → Prop) (X : List PanicEntry → Mem → Prop) : Mem → Prop :=
 new (.cells (List.replicate 32 (.int .u8 0)).toArray 373 (0, 0)) fun b1 => call 327 [] X fun v_ M => ∃ (r2 : Option PA), v_ = ptr r2 ∧ ( call 328 [ptr r2, Sl.v t0] X fun v_ M => ( call 329 [ptr r2] X fun v_ M => ∃ (r4 : List Value), v_ = .agg r4.toArray ∧ ( stA 32 (b1, 0) r4 <| ldA 32 (b1, 0) fun xs8 => K xs8) M) M) M
theorem br277 {t0 : Sl} {K : List Value → Mem → Prop} {X : List PanicEntry → Mem → Prop} {M : Mem} (H : S277 t0 K X M) :
  Spec Tryz.prog 277 #[Sl.v t0] M (fun v_ M => ∃ (r0 : List Value), v_ = .agg r0.toArray ∧ K r0 M) X := by
 refine spec_of_J (args := [Sl.v t0]) Tryz.func277 rfl Tryz.ntmps277 (Nat.le_of_ble_eq_true rfl) ?_
 have hD : (⟨fun i => ([Sl.v t0] : List Value).getD i undef, []⟩ : Env).D = [] := rfl
 have hP := Pv.nil M
 have hX := @kx_of Tryz.prog Tryz.f277 (fun v_ M => ∃ (r0 : List Value), v_ = .agg r0.toArray ∧ K r0 M) X
 unfold S277 at H
 refine J_seq ?_
 refine J_region (by decide) ?_
 refine JO_alloc (cs := List.replicate 32 (.int .u8 0)) zc_373 ?_
 intro b1 hb
 replace H := H b1 (hP.out hb).1
 replace hP := hP.new hb (.cells (List.replicate 32 (.int .u8 0)).toArray 373 (0, 0))
 refine JO_nil ?_
 refine J_seq ?_
 refine J_region (by decide) ?_
 refine JO_call Tryz.call327 (vs := []) mn ((hP.spec H).mono ?_ (fun ch Mp h => hX hD h))
 rintro v Mp ⟨M, hP, r2, rfl, H⟩
 refine JO_assign (v := ptr r2) rfl ?_
 refine JO_nil ?_
 refine J_seq ?_
 refine J_region (by decide) ?_
 refine JO_move (v := ptr r2) rfl ?_
 refine JO_move (v := Sl.v t0) rfl ?_
 refine JO_call Tryz.call328 (vs := [ptr r2, Sl.v t0]) (mc rfl (mc rfl mn)) ((hP.spec H).mono ?_ (fun ch Mp h => hX hD h))
 rintro rv_ Mp ⟨M, hP, H⟩
 refine JO_nil ?_
 refine J_seq ?_
 refine J_region (by decide) ?_
 refine JO_move (v := ptr r2) rfl ?_
 refine JO_call Tryz.call329 (vs := [ptr r2]) (mc rfl mn) ((hP.spec H).mono ?_ (fun ch Mp h => hX hD h))
 rintro v Mp ⟨M, hP, r4, rfl, H⟩
 obtain ⟨g6, g7, g5, H⟩ := H
 refine JO_storeAgg (p := (b1, 0)) (cs := r4) (by rw [g6]; exact sz_373) rfl rfl g7 (hP.wrs g5) ?_
 replace hP := hP.stos r4 g5
 refine JO_nil ?_
 obtain ⟨xs8, g9, g10, H⟩ := H
 exact J_ret (kret (pan := X)  hD (fun _ _ hb => hP.sub hb) (resOk (rs := [.cell 2 373]) (vs := [.agg xs8.toArray]) rfl ⟨item_cellAgg (p := (b1, 0)) (cs := xs8) (ag_373.trans g9.symm) (by rw [g9]; decide) rfl (fun i v hv => hP.cel (g10 i v hv)), trivial⟩) ⟨xs8, rfl, H⟩)

/-! slices.Insert[[]int,int] -/
def S281 (t0 : Sl) (t1 : Int) (t2 : Sl) (K : Sl → Mem → Prop) (X : List PanicEntry → Mem → Prop) : Mem → Prop :=
 must (0 ≤ t1 ∧ t1 ≤ (t0.n : Int) ∧ True ∧ (t0.c : Int) ≤ (t0.c : Int)) <| ite' ((t2.n : Int) == 0) (K t0) (ite' (t1 == (t0.n : Int)) (appS 3 1 8 [.int .i64 0] t0 t2 fun x2 => K x2) (ite' (decide ((IntKind.wrap .i64 ((t0.n : Int) + (t2.n : Int))) > (t0.c : Int))) (must (0 ≤ (0 : Int) ∧ (0 : Int) ≤ t1 ∧ t1 ≤ (t0.c : Int) ∧ (t0.c : Int) ≤ (t0.c : Int)) <| appZ 3 1 8 [.int .i64 0] (Sl.cut t0 1 (0 : Int) t1 (t0.c : Int)) (IntKind.wrap .i64 ((IntKind.wrap .i64 ((t0.n : Int) + (t2.n : Int))) - t1)) fun x4 => must (0 ≤ t1 ∧ t1 ≤ (x4.n : Int) ∧ True ∧ (x4.c : Int) ≤ (x4.c : Int)) <| cpS 1 (Sl.cut x4 1 t1 (x4.n : Int) (x4.c : Int)) t2 fun x6 => must (0 ≤ IntKind.wrap .i64 (t1 + (t2.n : Int)) ∧ IntKind.wrap .i64 (t1 + (t2.n : Int)) ≤ (x4.n : Int) ∧ True ∧ (x4.c : Int) ≤ (x4.c : Int)) <| must (0 ≤ t1 ∧ t1 ≤ (t0.n : Int) ∧ True ∧ (t0.c : Int) ≤ (t0.c : Int)) <| cpS 1 (Sl.cut x4 1 (IntKind.wrap .i64 (t1 + (t2.n : Int))) (x4.n : Int) (x4.c : Int)) (Sl.cut t0 1 t1 (t0.n : Int) (t0.c : Int)) fun x9 => K x4) (must (0 ≤ (0 : Int) ∧ (0 : Int) ≤ IntKind.wrap .i64 ((t0.n : Int) + (t2.n : Int)) ∧ IntKind.wrap .i64 ((t0.n : Int) + (t2.n : Int)) ≤ (t0.c : Int) ∧ (t0.c : Int) ≤ (t0.c : Int)) <| must (0 ≤ IntKind.wrap .i64 (t1 + (t2.n : Int)) ∧ IntKind.wrap .i64 (t1 + (t2.n : Int)) ≤ ((Sl.cut t0 1 (0 : Int) (IntKind.wrap .i64 ((t0.n : Int) + (t2.n : Int))) (t0.c : Int)).n : Int) ∧ True ∧ ((Sl.cut t0 1 (0 : Int) (IntKind.wrap .i64 ((t0.n : Int) + (t2.n : Int))) (t0.c : Int)).c : Int) ≤ ((Sl.cut t0 1 (0 : Int) (IntKind.wrap .i64 ((t0.n : Int) + (t2.n : Int))) (t0.c : Int)).c : Int)) <| callE 335 [Sl.v t2, Sl.v (Sl.cut (Sl.cut t0 1 (0 : Int) (IntKind.wrap .i64 ((t0.n : Int) + (t2.n : Int))) (t0.c : Int)) 1 (IntKind.wrap .i64 (t1 + (t2.n : Int))) ((Sl.cut t0 1 (0 : Int) (IntKind.wrap .i64 ((t0.n : Int) + (t2.n : Int))) (t0.c : Int)).n : Int) ((Sl.cut t0 1 (0 : Int) (IntKind.wrap .i64 ((t0.n : Int) + (t2.n : Int))) (t0.c : Int)).c : Int))] (fun _ _ => False) fun v_ M => ∃ (r12 : Bool), v_ = .bool r12 ∧ ( ite' (!r12) (must (0 ≤ IntKind.wrap .i64 (t1 + (t2.n : Int)) ∧ IntKind.wrap .i64 (t1 + (t2.n : Int)) ≤ ((Sl.cut t0 1 (0 : Int) (IntKind.wrap .i64 ((t0.n : Int) + (t2.n : Int))) (t0.c : Int)).n : Int) ∧ True ∧ ((Sl.cut t0 1 (0 : Int) (IntKind.wrap .i64 ((t0.n : Int) + (t2.n : Int))) (t0.c : Int)).c : Int) ≤ ((Sl.cut t0 1 (0 : Int) (IntKind.wrap .i64 ((t0.n : Int) + (t2.n : Int))) (t0.c : Int)).c : Int)) <| must (0 ≤ t1 ∧ t1 ≤ ((Sl.cut t0 1 (0 : Int) (IntKind.wrap .i64 ((t0.n : Int) + (t2.n : Int))) (t0.c : Int)).n : Int) ∧ True ∧ ((Sl.cut t0 1 (0 : Int) (IntKind.wrap .i64 ((t0.n : Int) + (t2.n : Int))) (t0.c : Int)).c : Int) ≤ ((Sl.cut t0 1 (0 : Int) (IntKind.wrap .i64 ((t0.n : Int) + (t2.n : Int))) (t0.c : Int)).c : Int)) <| cpS 1 (Sl.cut (Sl.cut t0 1 (0 : Int) (IntKind.wrap .i64 ((t0.n : Int) + (t2.n : Int))) (t0.c : Int)) 1 (IntKind.wrap .i64 (t1 + (t2.n : Int))) ((Sl.cut t0 1 (0 : Int) (IntKind.wrap .i64 ((t0.n : Int) + (t2.n : Int))) (t0.c : Int)).n : Int) ((Sl.cut t0 1 (0 : Int) (IntKind.wrap .i64 ((t0.n : Int) + (t2.n : Int))) (t0.c : Int)).c : Int)) (Sl.cut (Sl.cut t0 1 (0 : Int) (IntKind.wrap .i64 ((t0.n : Int) + (t2.n : Int))) (t0.c : Int)) 1 t1 ((Sl.cut t0 1 (0 : Int) (IntKind.wrap .i64 ((t0.n : Int) + (t2.n : Int))) (t0.c : Int)).n : Int) ((Sl.cut t0 1 (0 : Int) (IntKind.wrap .i64 ((t0.n : Int) + (t2.n : Int))) (t0.c : Int)).c : Int)) fun x15 => must (0 ≤ t1 ∧ t1 ≤ ((Sl.cut t0 1 (0 : Int) (IntKind.wrap .i64 ((t0.n : Int) + (t2.n : Int))) (t0.c : Int)).n : Int) ∧ True ∧ ((Sl.cut t0 1 (0 : Int) (IntKind.wrap .i64 ((t0.n : Int) + (t2.n : Int))) (t0.c : Int)).c : Int) ≤ ((Sl.cut t0 1 (0 : Int) (IntKind.wrap .i64 ((t0.n : Int) + (t2.n : Int))) (t0.c : Int)).c : Int)) <| cpS 1 (Sl.cut (Sl.cut t0 1 (0 : Int) (IntKind.wrap .i64 ((t0.n : Int) + (t2.n : Int))) (t0.c : Int)) 1 t1 ((Sl.cut t0 1 (0 : Int) (IntKind.wrap .i64 ((t0.n : Int) + (t2.n : Int))) (t0.c : Int)).n : Int) ((Sl.cut t0 1 (0 : Int) (IntKind.wrap .i64 ((t0.n : Int) + (t2.n : Int))) (t0.c : Int)).c : Int)) t2 fun x17 => K (Sl.cut t0 1 (0 : Int) (IntKind.wrap .i64 ((t0.n : Int) + (t2.n : Int))) (t0.c : Int))) (must (0 ≤ (t0.n : Int) ∧ (t0.n : Int) ≤ ((Sl.cut t0 1 (0 : Int) (IntKind.wrap .i64 ((t0.n : Int) + (t2.n : Int))) (t0.c : Int)).n : Int) ∧ True ∧ ((Sl.cut t0 1 (0 : Int) (IntKind.wrap .i64 ((t0.n : Int) + (t2.n : Int))) (t0.c : Int)).c : Int) ≤ ((Sl.cut t0 1 (0 : Int) (IntKind.wrap .i64 ((t0.n : Int) + (t2.n : Int))) (t0.c : Int)).c : Int)) <| cpS 1 (Sl.cut (Sl.cut t0 1 (0 : Int) (IntKind.wrap .i64 ((t0.n : Int) + (t2.n : Int))) (t0.c : Int)) 1 (t0.n : Int) ((Sl.cut t0 1 (0 : Int) (IntKind.wrap .i64 ((t0.n : Int) + (t2.n : Int))) (t0.c : Int)).n : Int) ((Sl.cut t0 1 (0 : Int) (IntKind.wrap .i64 ((t0.n : Int) + (t2.n : Int))) (t0.c : Int)).c : Int)) t2 fun x19 => must (0 ≤ t1 ∧ t1 ≤ ((Sl.cut t0 1 (0 : Int) (IntKind.wrap .i64 ((t0.n : Int) + (t2.n : Int))) (t0.c : Int)).n : Int) ∧ True ∧ ((Sl.cut t0 1 (0 : Int) (IntKind.wrap .i64 ((t0.n : Int) + (t2.n : Int))) (t0.c : Int)).c : Int) ≤ ((Sl.cut t0 1 (0 : Int) (IntKind.wrap .i64 ((t0.n : Int) + (t2.n : Int))) (t0.c : Int)).c : Int)) <| call 336 [Sl.v (Sl.cut (Sl.cut t0 1 (0 : Int) (IntKind.wrap .i64 ((t0.n : Int) + (t2.n : Int))) (t0.c : Int)) 1 t1 ((Sl.cut t0 1 (0 : Int) (IntKind.wrap .i64 ((t0.n : Int) + (t2.n : Int))) (t0.c : Int)).n : Int) ((Sl.cut t0 1 (0 : Int) (IntKind.wrap .i64 ((t0.n : Int) + (t2.n : Int))) (t0.c : Int)).c : Int)), .int .i64 (t2.n : Int)] X fun v_ M => ( K (Sl.cut t0 1 (0 : Int) (IntKind.wrap .i64 ((t0.n : Int) + (t2.n : Int))) (t0.c : Int))) M)) M)))
theorem br281 {t0 : Sl} {t1 : Int} {t2 : Sl} {K : Sl → Mem → Prop} {X : List PanicEntry → Mem → Prop} {M : Mem} (H : S281 t0 t1 t2 K X M) :
  Spec Tryz.prog 281 #[Sl.v t0, .int .i64 t1, Sl.v t2] M (fun v_ M => ∃ (r0 : Sl), v_ = Sl.v r0 ∧ K r0 M) X := by
 refine spec_of_J (args := [Sl.v t0, .int .i64 t1, Sl.v t2]) Tryz.func281 rfl Tryz.ntmps281 (Nat.le_of_ble_eq_true rfl) ?_
 have hD : (⟨fun i => ([Sl.v t0, .int .i64 t1, Sl.v t2] : List Value).getD i undef, []⟩ : Env).D = [] := rfl
 have hP := Pv.nil M
 have hX := @kx_of Tryz.prog Tryz.f281 (fun v_ M => ∃ (r0 : Sl), v_ = Sl.v r0 ∧ K r0 M) X
 unfold S281 at H
 refine J_seq ?_
 refine J_region (by decide) ?_
 refine JO_assign (v := Sl.v (⟨none, 0, 0⟩ : Sl)) rfl ?_
 refine JO_nil ?_
 refine J_seq ?_
 refine J_region (by decide) ?_
 refine JO_move (v := Sl.v t0) rfl ?_
 refine JO_move (v := .int .i64 t1) rfl ?_
 obtain ⟨g1, H⟩ := H
 refine JO_slice (s := t0) (l := t1) (h := (t0.n : Int)) (m := (t0.c : Int)) es_109 rfl rfl rfl ⟨_, rfl⟩ g1.1 g1.2.1 (by simp) g1.2.2.2 (by simp) ?_
 refine JO_nil ?_
 refine J_seq ?_
 refine J_region (by decide) ?_
 refine JO_move (v := Sl.v t2) rfl ?_
 refine JO_len (s := t2) is_109 rfl ?_
 refine JO_assign (v := .int .i64 (t2.n : Int)) rfl ?_
 refine JO_nil ?_
 refine J_seq ?_
 refine J_seq ?_
 refine J_region (by decide) ?_
 refine JO_move (v := .int .i64 (t2.n : Int)) rfl ?_
 refine JO_iop (op := .eql) (k := .i64) (a := (t2.n : Int)) (b := 0) rfl rfl trivial ?_
 refine JO_nil ?_
 refine J_cond (t := (t2.n : Int) == 0) rfl (fun hc_ => ?_) (fun hc_ => ?_)
 ·
  replace H := H.1 hc_
  clear hc_
  refine J_seq ?_
  refine J_region (by decide) ?_
  refine JO_move (v := Sl.v t0) rfl ?_
  refine JO_assign (v := Sl.v t0) rfl ?_
  refine JO_nil ?_
  exact J_ret (kret (pan := X)  hD (fun _ _ hb => hP.sub hb) (resOk (rs := [.tmp 6]) (vs := [Sl.v t0]) rfl ⟨item_tmp rfl, trivial⟩) ⟨t0, rfl, H⟩)
 ·
  replace H := H.2 hc_
  clear hc_
  refine J_skip ?_
  refine J_seq ?_
  refine J_region (by decide) ?_
  refine JO_move (v := Sl.v t0) rfl ?_
  refine JO_len (s := t0) is_109 rfl ?_
  refine JO_assign (v := .int .i64 (t0.n : Int)) rfl ?_
  refine JO_nil ?_
  refine J_seq ?_
  refine J_seq ?_
  refine J_region (by decide) ?_
  refine JO_move (v := .int .i64 t1) rfl ?_
  refine JO_move (v := .int .i64 (t0.n : Int)) rfl ?_
  refine JO_iop (op := .eql) (k := .i64) (a := t1) (b := (t0.n : Int)) rfl rfl trivial ?_
  refine JO_nil ?_
  refine J_cond (t := t1 == (t0.n : Int)) rfl (fun hc_ => ?_) (fun hc_ => ?_)
  ·
   replace H := H.1 hc_
   clear hc_
   refine J_seq ?_
   refine J_region (by decide) ?_
   refine JO_move (v := Sl.v t0) rfl ?_
   refine JO_move (v := Sl.v t2) rfl ?_
   refine JO_loud ((hP.opJ (OpJ_app (s := t0) (z := t2) ul_109 sb_3 zc_3 rfl rfl H)).mono (fun _ _ h => h) (fun _ _ ⟨_, _, f⟩ => f.elim)) ?_
   rintro _ Mp ⟨M, hP, x2, rfl, H⟩
   refine JO_assign (v := Sl.v x2) rfl ?_
   refine JO_nil ?_
   exact J_ret (kret (pan := X)  hD (fun _ _ hb => hP.sub hb) (resOk (rs := [.tmp 6]) (vs := [Sl.v x2]) rfl ⟨item_tmp rfl, trivial⟩) ⟨x2, rfl, H⟩)
  ·
   replace H := H.2 hc_
   clear hc_
   refine J_skip ?_
   refine J_seq ?_
   refine J_seq ?_
   refine J_region (by decide) ?_
   refine JO_move (v := .int .i64 (t0.n : Int)) rfl ?_
   refine JO_move (v := .int .i64 (t2.n : Int)) rfl ?_
   refine JO_iop (op := .add) (k := .i64) (a := (t0.n : Int)) (b := (t2.n : Int)) rfl rfl trivial ?_
   refine JO_move (v := Sl.v t0) rfl ?_
   refine JO_cap (s := t0) is_109 rfl ?_
   refine JO_iop (op := .gtr) (k := .i64) (a := IntKind.wrap .i64 ((t0.n : Int) + (t2.n : Int))) (b := (t0.c : Int)) rfl rfl trivial ?_
   refine JO_nil ?_
   refine J_cond (t := decide ((IntKind.wrap .i64 ((t0.n : Int) + (t2.n : Int))) > (t0.c : Int))) rfl (fun hc_ => ?_) (fun hc_ => ?_)
   ·
    replace H := H.1 hc_
    clear hc_
    refine J_seq ?_
    refine J_region (by decide) ?_
    refine JO_move (v := Sl.v t0) rfl ?_
    refine JO_move (v := .int .i64 t1) rfl ?_
    obtain ⟨g3, H⟩ := H
    refine JO_slice (s := t0) (l := (0 : Int)) (h := t1) (m := (t0.c : Int)) es_109 rfl rfl ⟨_, rfl⟩ rfl g3.1 g3.2.1 (fun _ => g3.2.2.1) g3.2.2.2 (by simp) ?_
    refine JO_move (v := .int .i64 (t0.n : Int)) rfl ?_
    refine JO_move (v := .int .i64 (t2.n : Int)) rfl ?_
    refine JO_iop (op := .add) (k := .i64) (a := (t0.n : Int)) (b := (t2.n : Int)) rfl rfl trivial ?_
    refine JO_move (v := .int .i64 t1) rfl ?_
    refine JO_iop (op := .sub) (k := .i64) (a := IntKind.wrap .i64 ((t0.n : Int) + (t2.n : Int))) (b := t1) rfl rfl trivial ?_
    refine JO_loud ((hP.opJ (OpJ_appZ (s := Sl.cut t0 1 (0 : Int) t1 (t0.c : Int)) (n := IntKind.wrap .i64 ((IntKind.wrap .i64 ((t0.n : Int) + (t2.n : Int))) - t1)) ul_109 ul_3 sb_3 zc_3 rfl rfl H)).mono (fun _ _ h => h) (fun _ _ ⟨_, _, f⟩ => f.elim)) ?_
    rintro _ Mp ⟨M, hP, x4, rfl, H⟩
    refine JO_assign (v := Sl.v x4) rfl ?_
    refine JO_nil ?_
    refine J_seq ?_
    refine J_region (by decide) ?_
    refine JO_move (v := Sl.v x4) rfl ?_
    refine JO_move (v := .int .i64 t1) rfl ?_
    obtain ⟨g5, H⟩ := H
    refine JO_slice (s := x4) (l := t1) (h := (x4.n : Int)) (m := (x4.c : Int)) es_109 rfl rfl rfl ⟨_, rfl⟩ g5.1 g5.2.1 (by simp) g5.2.2.2 (by simp) ?_
    refine JO_move (v := Sl.v t2) rfl ?_
    refine JO_loud ((hP.opJ (OpJ_cp (s := Sl.cut x4 1 t1 (x4.n : Int) (x4.c : Int)) (z := t2) ul_109 sz_3 rfl rfl H)).mono (fun _ _ h => h) (fun _ _ ⟨_, _, f⟩ => f.elim)) ?_
    rintro _ Mp ⟨M, hP, x6, rfl, H⟩
    refine JO_nil ?_
    refine J_seq ?_
    refine J_draw [0, 0, 0, 0, 0, 0, 0, 0, 3] (.cho 0 (.cho 1 (.cho 2 (.cho 3 (.cho 4 (.cho 5 (.cho 6 (.cho 7 (.cho 8 .done .none) .none) .none) .none) .none) .none) .none) .none) .none) rfl (by kernel_rfl) ?_
    refine JE_one ?_
    refine ST0 (fun _ h => by cases h) (fun w => OV_move (v := Sl.v x4) rfl w) ?_
    refine JE_one ?_
    refine ST0 (fun _ h => by cases h) (fun w => OV_move (v := .int .i64 t1) rfl w) ?_
    refine JE_one ?_
    refine ST0 (fun _ h => by cases h) (fun w => OV_move (v := .int .i64 (t2.n : Int)) rfl w) ?_
    refine JE_one ?_
    refine ST0 (fun _ h => by cases h) (fun w => OV_iop (op := .add) (k := .i64) (a := t1) (b := (t2.n : Int)) rfl rfl trivial w) ?_
    refine JE_one ?_
    obtain ⟨g7, H⟩ := H
    refine ST0 (fun _ h => by cases h) (fun w => OV_slice (s := x4) (l := IntKind.wrap .i64 (t1 + (t2.n : Int))) (h := (x4.n : Int)) (m := (x4.c : Int)) es_109 rfl (by exact rfl) (by exact rfl) (by exact ⟨_, rfl⟩) g7.1 g7.2.1 (by simp) g7.2.2.2 (by simp) w) ?_
    refine JE_one ?_
    refine ST0 (fun _ h => by cases h) (fun w => OV_move (v := Sl.v t0) rfl w) ?_
    refine JE_one ?_
    refine ST0 (fun _ h => by cases h) (fun w => OV_move (v := .int .i64 t1) rfl w) ?_
    refine JE_one ?_
    obtain ⟨g8, H⟩ := H
    refine ST0 (fun _ h => by cases h) (fun w => OV_slice (s := t0) (l := t1) (h := (t0.n : Int)) (m := (t0.c : Int)) es_109 rfl (by exact rfl) (by exact rfl) (by exact ⟨_, rfl⟩) g8.1 g8.2.1 (by simp) g8.2.2.2 (by simp) w) ?_
    refine JE_one ?_
    refine ST3 ?_
    refine JO_loud ((hP.opJ (OpJ_cp (s := Sl.cut x4 1 (IntKind.wrap .i64 (t1 + (t2.n : Int))) (x4.n : Int) (x4.c : Int)) (z := Sl.cut t0 1 t1 (t0.n : Int) (t0.c : Int)) ul_109 sz_3 rfl rfl H)).mono (fun _ _ h => h) (fun _ _ ⟨_, _, f⟩ => f.elim)) ?_
    rintro _ Mp ⟨M, hP, x9, rfl, H⟩
    refine Kd_nil ?_
    refine JE_done ?_
    refine J_seq ?_
    refine J_region (by decide) ?_
    refine JO_move (v := Sl.v x4) rfl ?_
    refine JO_assign (v := Sl.v x4) rfl ?_
    refine JO_nil ?_
    exact J_ret (kret (pan := X)  hD (fun _ _ hb => hP.sub hb) (resOk (rs := [.tmp 6]) (vs := [Sl.v x4]) rfl ⟨item_tmp rfl, trivial⟩) ⟨x4, rfl, H⟩)
   ·
    replace H := H.2 hc_
    clear hc_
    refine J_skip ?_
    refine J_seq ?_
    refine J_region (by decide) ?_
    refine JO_move (v := Sl.v t0) rfl ?_
    refine JO_move (v := .int .i64 (t0.n : Int)) rfl ?_
    refine JO_move (v := .int .i64 (t2.n : Int)) rfl ?_
    refine JO_iop (op := .add) (k := .i64) (a := (t0.n : Int)) (b := (t2.n : Int)) rfl rfl trivial ?_
    obtain ⟨g10, H⟩ := H
    refine JO_slice (s := t0) (l := (0 : Int)) (h := IntKind.wrap .i64 ((t0.n : Int) + (t2.n : Int))) (m := (t0.c : Int)) es_109 rfl rfl ⟨_, rfl⟩ rfl g10.1 g10.2.1 (fun _ => g10.2.2.1) g10.2.2.2 (by simp) ?_
    refine JO_assign (v := Sl.v (Sl.cut t0 1 (0 : Int) (IntKind.wrap .i64 ((t0.n : Int) + (t2.n : Int))) (t0.c : Int))) rfl ?_
    refine JO_nil ?_
    refine J_seq ?_
    refine J_seq ?_
    refine J_region (by decide) ?_
    refine JO_move (v := Sl.v t2) rfl ?_
    refine JO_move (v := Sl.v (Sl.cut t0 1 (0 : Int) (IntKind.wrap .i64 ((t0.n : Int) + (t2.n : Int))) (t0.c : Int))) rfl ?_
    refine JO_move (v := .int .i64 t1) rfl ?_
    refine JO_move (v := .int .i64 (t2.n : Int)) rfl ?_
    refine JO_iop (op := .add) (k := .i64) (a := t1) (b := (t2.n : Int)) rfl rfl trivial ?_
    obtain ⟨g11, H⟩ := H
    refine JO_slice (s := Sl.cut t0 1 (0 : Int) (IntKind.wrap .i64 ((t0.n : Int) + (t2.n : Int))) (t0.c : Int)) (l := IntKind.wrap .i64 (t1 + (t2.n : Int))) (h := ((Sl.cut t0 1 (0 : Int) (IntKind.wrap .i64 ((t0.n : Int) + (t2.n : Int))) (t0.c : Int)).n : Int)) (m := ((Sl.cut t0 1 (0 : Int) (IntKind.wrap .i64 ((t0.n : Int) + (t2.n : Int))) (t0.c : Int)).c : Int)) es_109 rfl rfl rfl ⟨_, rfl⟩ g11.1 g11.2.1 (by simp) g11.2.2.2 (by simp) ?_
    refine JO_loud ((hP.opJ (OpJ_ext (vs := [Sl.v t2, Sl.v (Sl.cut (Sl.cut t0 1 (0 : Int) (IntKind.wrap .i64 ((t0.n : Int) + (t2.n : Int))) (t0.c : Int)) 1 (IntKind.wrap .i64 (t1 + (t2.n : Int))) ((Sl.cut t0 1 (0 : Int) (IntKind.wrap .i64 ((t0.n : Int) + (t2.n : Int))) (t0.c : Int)).n : Int) ((Sl.cut t0 1 (0 : Int) (IntKind.wrap .i64 ((t0.n : Int) + (t2.n : Int))) (t0.c : Int)).c : Int))]) (mc rfl (mc rfl mn)) (H _))).mono (fun _ _ h => h) (fun _ _ ⟨_, _, f⟩ => f.elim)) ?_
    rintro v Mp ⟨M, hP, r12, rfl, H⟩
    refine JO_not (b := r12) rfl ?_
    refine JO_nil ?_
    refine J_cond (t := !r12) rfl (fun hc_ => ?_) (fun hc_ => ?_)
    ·
     replace H := H.1 hc_
     clear hc_
     refine J_seq ?_
     refine J_draw [0, 0, 0, 0, 0, 0, 0, 0, 3] (.cho 0 (.cho 1 (.cho 2 (.cho 3 (.cho 4 (.cho 5 (.cho 6 (.cho 7 (.cho 8 .done .none) .none) .none) .none) .none) .none) .none) .none) .none) rfl (by kernel_rfl) ?_
     refine JE_one ?_
     refine ST0 (fun _ h => by cases h) (fun w => OV_move (v := Sl.v (Sl.cut t0 1 (0 : Int) (IntKind.wrap .i64 ((t0.n : Int) + (t2.n : Int))) (t0.c : Int))) rfl w) ?_
     refine JE_one ?_
     refine ST0 (fun _ h => by cases h) (fun w => OV_move (v := .int .i64 t1) rfl w) ?_
     refine JE_one ?_
     refine ST0 (fun _ h => by cases h) (fun w => OV_move (v := .int .i64 (t2.n : Int)) rfl w) ?_
     refine JE_one ?_
     refine ST0 (fun _ h => by cases h) (fun w => OV_iop (op := .add) (k := .i64) (a := t1) (b := (t2.n : Int)) rfl rfl trivial w) ?_
     refine JE_one ?_
     obtain ⟨g13, H⟩ := H
     refine ST0 (fun _ h => by cases h) (fun w => OV_slice (s := Sl.cut t0 1 (0 : Int) (IntKind.wrap .i64 ((t0.n : Int) + (t2.n : Int))) (t0.c : Int)) (l := IntKind.wrap .i64 (t1 + (t2.n : Int))) (h := ((Sl.cut t0 1 (0 : Int) (IntKind.wrap .i64 ((t0.n : Int) + (t2.n : Int))) (t0.c : Int)).n : Int)) (m := ((Sl.cut t0 1 (0 : Int) (IntKind.wrap .i64 ((t0.n : Int) + (t2.n : Int))) (t0.c : Int)).c : Int)) es_109 rfl (by exact rfl) (by exact rfl) (by exact ⟨_, rfl⟩) g13.1 g13.2.1 (by simp) g13.2.2.2 (by simp) w) ?_
     refine JE_one ?_
     refine ST0 (fun _ h => by cases h) (fun w => OV_move (v := Sl.v (Sl.cut t0 1 (0 : Int) (IntKind.wrap .i64 ((t0.n : Int) + (t2.n : Int))) (t0.c : Int))) rfl w) ?_
     refine JE_one ?_
     refine ST0 (fun _ h => by cases h) (fun w => OV_move (v := .int .i64 t1) rfl w) ?_
     refine JE_one ?_
     obtain ⟨g14, H⟩ := H
     refine ST0 (fun _ h => by cases h) (fun w => OV_slice (s := Sl.cut t0 1 (0 : Int) (IntKind.wrap .i64 ((t0.n : Int) + (t2.n : Int))) (t0.c : Int)) (l := t1) (h := ((Sl.cut t0 1 (0 : Int) (IntKind.wrap .i64 ((t0.n : Int) + (t2.n : Int))) (t0.c : Int)).n : Int)) (m := ((Sl.cut t0 1 (0 : Int) (IntKind.wrap .i64 ((t0.n : Int) + (t2.n : Int))) (t0.c : Int)).c : Int)) es_109 rfl (by exact rfl) (by exact rfl) (by exact ⟨_, rfl⟩) g14.1 g14.2.1 (by simp) g14.2.2.2 (by simp) w) ?_
     refine JE_one ?_
     refine ST3 ?_
     refine JO_loud ((hP.opJ (OpJ_cp (s := Sl.cut (Sl.cut t0 1 (0 : Int) (IntKind.wrap .i64 ((t0.n : Int) + (t2.n : Int))) (t0.c : Int)) 1 (IntKind.wrap .i64 (t1 + (t2.n : Int))) ((Sl.cut t0 1 (0 : Int) (IntKind.wrap .i64 ((t0.n : Int) + (t2.n : Int))) (t0.c : Int)).n : Int) ((Sl.cut t0 1 (0 : Int) (IntKind.wrap .i64 ((t0.n : Int) + (t2.n : Int))) (t0.c : Int)).c : Int)) (z := Sl.cut (Sl.cut t0 1 (0 : Int) (IntKind.wrap .i64 ((t0.n : Int) + (t2.n : Int))) (t0.c : Int)) 1 t1 ((Sl.cut t0 1 (0 : Int) (IntKind.wrap .i64 ((t0.n : Int) + (t2.n : Int))) (t0.c : Int)).n : Int) ((Sl.cut t0 1 (0 : Int) (IntKind.wrap .i64 ((t0.n : Int) + (t2.n : Int))) (t0.c : Int)).c : Int)) ul_109 sz_3 rfl rfl H)).mono (fun _ _ h => h) (fun _ _ ⟨_, _, f⟩ => f.elim)) ?_
     rintro _ Mp ⟨M, hP, x15, rfl, H⟩
     refine Kd_nil ?_
     refine JE_done ?_
     refine J_seq ?_
     refine J_region (by decide) ?_
     refine JO_move (v := Sl.v (Sl.cut t0 1 (0 : Int) (IntKind.wrap .i64 ((t0.n : Int) + (t2.n : Int))) (t0.c : Int))) rfl ?_
     refine JO_move (v := .int .i64 t1) rfl ?_
     obtain ⟨g16, H⟩ := H
     refine JO_slice (s := Sl.cut t0 1 (0 : Int) (IntKind.wrap .i64 ((t0.n : Int) + (t2.n : Int))) (t0.c : Int)) (l := t1) (h := ((Sl.cut t0 1 (0 : Int) (IntKind.wrap .i64 ((t0.n : Int) + (t2.n : Int))) (t0.c : Int)).n : Int)) (m := ((Sl.cut t0 1 (0 : Int) (IntKind.wrap .i64 ((t0.n : Int) + (t2.n : Int))) (t0.c : Int)).c : Int)) es_109 rfl rfl rfl ⟨_, rfl⟩ g16.1 g16.2.1 (by simp) g16.2.2.2 (by simp) ?_
     refine JO_move (v := Sl.v t2) rfl ?_
     refine JO_loud ((hP.opJ (OpJ_cp (s := Sl.cut (Sl.cut t0 1 (0 : Int) (IntKind.wrap .i64 ((t0.n : Int) + (t2.n : Int))) (t0.c : Int)) 1 t1 ((Sl.cut t0 1 (0 : Int) (IntKind.wrap .i64 ((t0.n : Int) + (t2.n : Int))) (t0.c : Int)).n : Int) ((Sl.cut t0 1 (0 : Int) (IntKind.wrap .i64 ((t0.n : Int) + (t2.n : Int))) (t0.c : Int)).c : Int)) (z := t2) ul_109 sz_3 rfl rfl H)).mono (fun _ _ h => h) (fun _ _ ⟨_, _, f⟩ => f.elim)) ?_
     rintro _ Mp ⟨M, hP, x17, rfl, H⟩
     refine JO_nil ?_
     refine J_seq ?_
     refine J_region (by decide) ?_
     refine JO_move (v := Sl.v (Sl.cut t0 1 (0 : Int) (IntKind.wrap .i64 ((t0.n : Int) + (t2.n : Int))) (t0.c : Int))) rfl ?_
     refine JO_assign (v := Sl.v (Sl.cut t0 1 (0 : Int) (IntKind.wrap .i64 ((t0.n : Int) + (t2.n : Int))) (t0.c : Int))) rfl ?_
     refine JO_nil ?_
     exact J_ret (kret (pan := X)  hD (fun _ _ hb => hP.sub hb) (resOk (rs := [.tmp 6]) (vs := [Sl.v (Sl.cut t0 1 (0 : Int) (IntKind.wrap .i64 ((t0.n : Int) + (t2.n : Int))) (t0.c : Int))]) rfl ⟨item_tmp rfl, trivial⟩) ⟨Sl.cut t0 1 (0 : Int) (IntKind.wrap .i64 ((t0.n : Int) + (t2.n : Int))) (t0.c : Int), rfl, H⟩)
    ·
     replace H := H.2 hc_
     clear hc_
     refine J_skip ?_
     refine J_seq ?_
     refine J_region (by decide) ?_
     refine JO_move (v := Sl.v (Sl.cut t0 1 (0 : Int) (IntKind.wrap .i64 ((t0.n : Int) + (t2.n : Int))) (t0.c : Int))) rfl ?_
     refine JO_move (v := .int .i64 (t0.n : Int)) rfl ?_
     obtain ⟨g18, H⟩ := H
     refine JO_slice (s := Sl.cut t0 1 (0 : Int) (IntKind.wrap .i64 ((t0.n : Int) + (t2.n : Int))) (t0.c : Int)) (l := (t0.n : Int)) (h := ((Sl.cut t0 1 (0 : Int) (IntKind.wrap .i64 ((t0.n : Int) + (t2.n : Int))) (t0.c : Int)).n : Int)) (m := ((Sl.cut t0 1 (0 : Int) (IntKind.wrap .i64 ((t0.n : Int) + (t2.n : Int))) (t0.c : Int)).c : Int)) es_109 rfl rfl rfl ⟨_, rfl⟩ g18.1 g18.2.1 (by simp) g18.2.2.2 (by simp) ?_
     refine JO_move (v := Sl.v t2) rfl ?_
     refine JO_loud ((hP.opJ (OpJ_cp (s := Sl.cut (Sl.cut t0 1 (0 : Int) (IntKind.wrap .i64 ((t0.n : Int) + (t2.n : Int))) (t0.c : Int)) 1 (t0.n : Int) ((Sl.cut t0 1 (0 : Int) (IntKind.wrap .i64 ((t0.n : Int) + (t2.n : Int))) (t0.c : Int)).n : Int) ((Sl.cut t0 1 (0 : Int) (IntKind.wrap .i64 ((t0.n : Int) + (t2.n : Int))) (t0.c : Int)).c : Int)) (z := t2) ul_109 sz_3 rfl rfl H)).mono (fun _ _ h => h) (fun _ _ ⟨_, _, f⟩ => f.elim)) ?_
     rintro _ Mp ⟨M, hP, x19, rfl, H⟩
     refine JO_nil ?_
     refine J_seq ?_
     refine J_region (by decide) ?_
     refine JO_move (v := Sl.v (Sl.cut t0 1 (0 : Int) (IntKind.wrap .i64 ((t0.n : Int) + (t2.n : Int))) (t0.c : Int))) rfl ?_
     refine JO_move (v := .int .i64 t1) rfl ?_
     obtain ⟨g20, H⟩ := H
     refine JO_slice (s := Sl.cut t0 1 (0 : Int) (IntKind.wrap .i64 ((t0.n : Int) + (t2.n : Int))) (t0.c : Int)) (l := t1) (h := ((Sl.cut t0 1 (0 : Int) (IntKind.wrap .i64 ((t0.n : Int) + (t2.n : Int))) (t0.c : Int)).n : Int)) (m := ((Sl.cut t0 1 (0 : Int) (IntKind.wrap .i64 ((t0.n : Int) + (t2.n : Int))) (t0.c : Int)).c : Int)) es_109 rfl rfl rfl ⟨_, rfl⟩ g20.1 g20.2.1 (by simp) g20.2.2.2 (by simp) ?_
     refine JO_move (v := .int .i64 (t2.n : Int)) rfl ?_
     refine JO_call Tryz.call336 (vs := [Sl.v (Sl.cut (Sl.cut t0 1 (0 : Int) (IntKind.wrap .i64 ((t0.n : Int) + (t2.n : Int))) (t0.c : Int)) 1 t1 ((Sl.cut t0 1 (0 : Int) (IntKind.wrap .i64 ((t0.n : Int) + (t2.n : Int))) (t0.c : Int)).n : Int) ((Sl.cut t0 1 (0 : Int) (IntKind.wrap .i64 ((t0.n : Int) + (t2.n : Int))) (t0.c : Int)).c : Int)), .int .i64 (t2.n : Int)]) (mc rfl (mc rfl mn)) ((hP.spec H).mono ?_ (fun ch Mp h => hX hD h))
     rintro rv_ Mp ⟨M, hP, H⟩
     refine JO_nil ?_
     refine J_seq ?_
     refine J_region (by decide) ?_
     refine JO_move (v := Sl.v (Sl.cut t0 1 (0 : Int) (IntKind.wrap .i64 ((t0.n : Int) + (t2.n : Int))) (t0.c : Int))) rfl ?_
     refine JO_assign (v := Sl.v (Sl.cut t0 1 (0 : Int) (IntKind.wrap .i64 ((t0.n : Int) + (t2.n : Int))) (t0.c : Int))) rfl ?_
     refine JO_nil ?_
     exact J_ret (kret (pan := X)  hD (fun _ _ hb => hP.sub hb) (resOk (rs := [.tmp 6]) (vs := [Sl.v (Sl.cut t0 1 (0 : Int) (IntKind.wrap .i64 ((t0.n : Int) + (t2.n : Int))) (t0.c : Int))]) rfl ⟨item_tmp rfl, trivial⟩) ⟨Sl.cut t0 1 (0 : Int) (IntKind.wrap .i64 ((t0.n : Int) + (t2.n : Int))) (t0.c : Int), rfl, H⟩)

/-! brazier/digest.New -/
def S327 (K : Option PA → Mem → Prop) (X : List PanicEntry → Mem → Prop) : Mem → Prop :=
 call 363 [] X fun v_ M => ∃ (r1_0 : Int) (r1_1 : Int) (r1_2 : Int) (r1_3 : Int) (r1_4 : Int) (r1_5 : Int) (r1_6 : Int) (r1_7 : Int), v_ = .agg #[.int .u32 r1_0, .int .u32 r1_1, .int .u32 r1_2, .int .u32 r1_3, .int .u32 r1_4, .int .u32 r1_5, .int .u32 r1_6, .int .u32 r1_7] ∧ ( new (.cells #[.int .u32 r1_0, .int .u32 r1_1, .int .u32 r1_2, .int .u32 r1_3, .int .u32 r1_4, .int .u32 r1_5, .int .u32 r1_6, .int .u32 r1_7, Sl.v (⟨none, 0, 0⟩ : Sl), .int .i64 0] 434 (0, 0)) fun b2 => K (some (b2, 0))) M
theorem br327 {K : Option PA → Mem → Prop} {X : List PanicEntry → Mem → Prop} {M : Mem} (H : S327  K X M) :
  Spec Tryz.prog 327 #[] M (fun v_ M => ∃ (r0 : Option PA), v_ = ptr r0 ∧ K r0 M) X := by
 refine spec_of_J (args := []) Tryz.func327 rfl Tryz.ntmps327 (Nat.le_of_ble_eq_true rfl) ?_
 have hD : (⟨fun i => ([] : List Value).getD i undef, []⟩ : Env).D = [] := rfl
 have hP := Pv.nil M
 have hX := @kx_of Tryz.prog Tryz.f327 (fun v_ M => ∃ (r0 : Option PA), v_ = ptr r0 ∧ K r0 M) X
 unfold S327 at H
 refine J_seq ?_
 refine J_region (by decide) ?_
 refine JO_assign (v := ptr none) rfl ?_
 refine JO_nil ?_
 refine J_seq ?_
 refine J_region (by decide) ?_
 refine JO_call Tryz.call363 (vs := []) mn ((hP.spec H).mono ?_ (fun ch Mp h => hX hD h))
 rintro v Mp ⟨M, hP, r1_0, r1_1, r1_2, r1_3, r1_4, r1_5, r1_6, r1_7, rfl, H⟩
 refine JO_bld (vs := [(0, .agg #[.int .u32 r1_0, .int .u32 r1_1, .int .u32 r1_2, .int .u32 r1_3, .int .u32 r1_4, .int .u32 r1_5, .int .u32 r1_6, .int .u32 r1_7])]) (cs := [.int .u32 r1_0, .int .u32 r1_1, .int .u32 r1_2, .int .u32 r1_3, .int .u32 r1_4, .int .u32 r1_5, .int .u32 r1_6, .int .u32 r1_7, Sl.v (⟨none, 0, 0⟩ : Sl), .int .i64 0]) pl_434 zc_434 (mpc rfl mpn) rfl ?_
 refine JO_box (v := .agg #[.int .u32 r1_0, .int .u32 r1_1, .int .u32 r1_2, .int .u32 r1_3, .int .u32 r1_4, .int .u32 r1_5, .int .u32 r1_6, .int .u32 r1_7, Sl.v (⟨none, 0, 0⟩ : Sl), .int .i64 0]) rfl ?_
 intro b2 hb
 replace H := H b2 (hP.out hb).1
 replace hP := hP.new hb (.cells #[.int .u32 r1_0, .int .u32 r1_1, .int .u32 r1_2, .int .u32 r1_3, .int .u32 r1_4, .int .u32 r1_5, .int .u32 r1_6, .int .u32 r1_7, Sl.v (⟨none, 0, 0⟩ : Sl), .int .i64 0] 434 (0, 0))
 refine JO_assign (v := ptr (some (b2, 0))) rfl ?_
 refine JO_nil ?_
 exact J_ret (kret (pan := X)  hD (fun _ _ hb => hP.sub hb) (resOk (rs := [.tmp 0]) (vs := [ptr (some (b2, 0))]) rfl ⟨item_tmp rfl, trivial⟩) ⟨(some (b2, 0)), rfl, H⟩)

/-! slices.Delete[[]string,string] -/
def S331 (t0 : Sl) (t1 : Int) (t2 : Int) (K : Sl → Mem → Prop) (X : List PanicEntry → Mem → Prop) : Mem → Prop :=
 must (0 ≤ t1 ∧ t1 ≤ t2 ∧ t2 ≤ (t0.n : Int) ∧ (t0.n : Int) ≤ (t0.c : Int)) <| ite' (t1 == t2) (K t0) (must (0 ≤ (0 : Int) ∧ (0 : Int) ≤ t1 ∧ t1 ≤ (t0.c : Int) ∧ (t0.c : Int) ≤ (t0.c : Int)) <| must (0 ≤ t2 ∧ t2 ≤ (t0.n : Int) ∧ True ∧ (t0.c : Int) ≤ (t0.c : Int)) <| appS 9 1 16 [.string (⟨#[]⟩ : ByteArray)] (Sl.cut t0 1 (0 : Int) t1 (t0.c : Int)) (Sl.cut t0 1 t2 (t0.n : Int) (t0.c : Int)) fun x4 => must (0 ≤ (x4.n : Int) ∧ (x4.n : Int) ≤ (t0.n : Int) ∧ (t0.n : Int) ≤ (x4.c : Int) ∧ (x4.c : Int) ≤ (x4.c : Int)) <| clr [.string (⟨#[]⟩ : ByteArray)] (Sl.cut x4 1 (x4.n : Int) (t0.n : Int) (x4.c : Int)) <| K x4)
theorem br331 {t0 : Sl} {t1 : Int} {t2 : Int} {K : Sl → Mem → Prop} {X : List PanicEntry → Mem → Prop} {M : Mem} (H : S331 t0 t1 t2 K X M) :
  Spec Tryz.prog 331 #[Sl.v t0, .int .i64 t1, .int .i64 t2] M (fun v_ M => ∃ (r0 : Sl), v_ = Sl.v r0 ∧ K r0 M) X := by
 refine spec_of_J (args := [Sl.v t0, .int .i64 t1, .int .i64 t2]) Tryz.func331 rfl Tryz.ntmps331 (Nat.le_of_ble_eq_true rfl) ?_
 have hD : (⟨fun i => ([Sl.v t0, .int .i64 t1, .int .i64 t2] : List Value).getD i undef, []⟩ : Env).D = [] := rfl
 have hP := Pv.nil M
 have hX := @kx_of Tryz.prog Tryz.f331 (fun v_ M => ∃ (r0 : Sl), v_ = Sl.v r0 ∧ K r0 M) X
 unfold S331 at H
 refine J_seq ?_
 refine J_region (by decide) ?_
 refine JO_assign (v := Sl.v (⟨none, 0, 0⟩ : Sl)) rfl ?_
 refine JO_nil ?_
 refine J_seq ?_
 refine J_region (by decide) ?_
 refine JO_move (v := Sl.v t0) rfl ?_
 refine JO_move (v := .int .i64 t1) rfl ?_
 refine JO_move (v := .int .i64 t2) rfl ?_
 refine JO_move (v := Sl.v t0) rfl ?_
 refine JO_len (s := t0) is_36 rfl ?_
 obtain ⟨g1, H⟩ := H
 refine JO_slice (s := t0) (l := t1) (h := t2) (m := (t0.n : Int)) es_36 rfl ⟨_, rfl⟩ ⟨_, rfl⟩ ⟨_, rfl⟩ g1.1 g1.2.1 (fun _ => g1.2.2.1) g1.2.2.2 (by simp) ?_
 refine JO_nil ?_
 refine J_seq ?_
 refine J_seq ?_
 refine J_region (by decide) ?_
 refine JO_move (v := .int .i64 t1) rfl ?_
 refine JO_move (v := .int .i64 t2) rfl ?_
 refine JO_iop (op := .eql) (k := .i64) (a := t1) (b := t2) rfl rfl trivial ?_
 refine JO_nil ?_
 refine J_cond (t := t1 == t2) rfl (fun hc_ => ?_) (fun hc_ => ?_)
 ·
  replace H := H.1 hc_
  clear hc_
  refine J_seq ?_
  refine J_region (by decide) ?_
  refine JO_move (v := Sl.v t0) rfl ?_
  refine JO_assign (v := Sl.v t0) rfl ?_
  refine JO_nil ?_
  exact J_ret (kret (pan := X)  hD (fun _ _ hb => hP.sub hb) (resOk (rs := [.tmp 6]) (vs := [Sl.v t0]) rfl ⟨item_tmp rfl, trivial⟩) ⟨t0, rfl, H⟩)
 ·
  replace H := H.2 hc_
  clear hc_
  refine J_skip ?_
  refine J_seq ?_
  refine J_region (by decide) ?_
  refine JO_move (v := Sl.v t0) rfl ?_
  refine JO_len (s := t0) is_36 rfl ?_
  refine JO_assign (v := .int .i64 (t0.n : Int)) rfl ?_
  refine JO_nil ?_
  refine J_seq ?_
  refine J_draw [0, 0, 0, 0, 0, 0, 3, 0] (.cho 0 (.cho 1 (.cho 2 (.cho 3 (.cho 4 (.cho 5 (.cho 6 (.cho 7 .done .none) .none) .none) .none) .none) .none) .none) .none) rfl (by kernel_rfl) ?_
  refine JE_one ?_
  refine ST0 (fun _ h => by cases h) (fun w => OV_move (v := Sl.v t0) rfl w) ?_
  refine JE_one ?_
  refine ST0 (fun _ h => by cases h) (fun w => OV_move (v := .int .i64 t1) rfl w) ?_
  refine JE_one ?_
  obtain ⟨g2, H⟩ := H
  refine ST0 (fun _ h => by cases h) (fun w => OV_slice (s := t0) (l := (0 : Int)) (h := t1) (m := (t0.c : Int)) es_36 rfl (by exact rfl) (by exact ⟨_, rfl⟩) (by exact rfl) g2.1 g2.2.1 (fun _ => g2.2.2.1) g2.2.2.2 (by simp) w) ?_
  refine JE_one ?_
  refine ST0 (fun _ h => by cases h) (fun w => OV_move (v := Sl.v t0) rfl w) ?_
  refine JE_one ?_
  refine ST0 (fun _ h => by cases h) (fun w => OV_move (v := .int .i64 t2) rfl w) ?_
  refine JE_one ?_
  obtain ⟨g3, H⟩ := H
  refine ST0 (fun _ h => by cases h) (fun w => OV_slice (s := t0) (l := t2) (h := (t0.n : Int)) (m := (t0.c : Int)) es_36 rfl (by exact rfl) (by exact rfl) (by exact ⟨_, rfl⟩) g3.1 g3.2.1 (by simp) g3.2.2.2 (by simp) w) ?_
  refine JE_one ?_
  refine ST3 ?_
  refine JO_loud ((hP.opJ (OpJ_app (s := Sl.cut t0 1 (0 : Int) t1 (t0.c : Int)) (z := Sl.cut t0 1 t2 (t0.n : Int) (t0.c : Int)) ul_36 sb_9 zc_9 rfl rfl H)).mono (fun _ _ h => h) (fun _ _ ⟨_, _, f⟩ => f.elim)) ?_
  rintro _ Mp ⟨M, hP, x4, rfl, H⟩
  refine Kd_nil ?_
  refine JE_one ?_
  refine ST0 (fun _ h => by cases h) (fun w => OV_assign (v := Sl.v x4) rfl w) ?_
  refine JE_done ?_
  refine J_seq ?_
  refine J_region (by decide) ?_
  refine JO_move (v := Sl.v x4) rfl ?_
  refine JO_move (v := Sl.v x4) rfl ?_
  refine JO_len (s := x4) is_36 rfl ?_
  refine JO_move (v := .int .i64 (t0.n : Int)) rfl ?_
  obtain ⟨g5, H⟩ := H
  refine JO_slice (s := x4) (l := (x4.n : Int)) (h := (t0.n : Int)) (m := (x4.c : Int)) es_36 rfl rfl ⟨_, rfl⟩ ⟨_, rfl⟩ g5.1 g5.2.1 (fun _ => g5.2.2.1) g5.2.2.2 (by simp) ?_
  refine JO_loud ((hP.opJ (OpJ_clr (s := Sl.cut x4 1 (x4.n : Int) (t0.n : Int) (x4.c : Int)) ul_36 zc_9 rfl H)).mono (fun _ _ h => h) (fun _ _ ⟨_, _, f⟩ => f.elim)) ?_
  rintro _ Mp ⟨M, hP, H⟩
  refine JO_nil ?_
  refine J_seq ?_
  refine J_region (by decide) ?_
  refine JO_move (v := Sl.v x4) rfl ?_
  refine JO_assign (v := Sl.v x4) rfl ?_
  refine JO_nil ?_
  exact J_ret (kret (pan := X)  hD (fun _ _ hb => hP.sub hb) (resOk (rs := [.tmp 6]) (vs := [Sl.v x4]) rfl ⟨item_tmp rfl, trivial⟩) ⟨x4, rfl, H⟩)

/-! cmp.Less[string] -/
def S337_2 (t16_ : Bool) (K : Bool → Mem → Prop) (X : List PanicEntry → Mem → Prop) : Mem → Prop :=
 K t16_
def S337_1 (t0_ : ByteArray) (t1_ : ByteArray) (t11_ : Bool) (K : Bool → Mem → Prop) (X : List PanicEntry → Mem → Prop) : Mem → Prop :=
 ite' t11_ (S337_2 true K X) (S337_2 (slt t0_ t1_) K X)
def S337 (t0 : ByteArray) (t1 : ByteArray) (K : Bool → Mem → Prop) (X : List PanicEntry → Mem → Prop) : Mem → Prop :=
 call 367 [.string t0] X fun v_ M => ∃ (r1 : Bool), v_ = .bool r1 ∧ ( ite' r1 (call 367 [.string t1] X fun v_ M => ∃ (r4 : Bool), v_ = .bool r4 ∧ ( S337_1 t0 t1 (!r4) K X) M) (S337_1 t0 t1 false K X)) M
abbrev F337_2 (K : Bool → Mem → Prop) (X : List PanicEntry → Mem → Prop) (e : Env) (Mp : Mem) : Prop := ∃ (t16_ : Bool) (M : Mem), e.D = [] ∧ e.v 16 = .bool t16_ ∧ Pv M [] Mp ∧ S337_2 t16_ K X M
abbrev F337_1 (K : Bool → Mem → Prop) (X : List PanicEntry → Mem → Prop) (e : Env) (Mp : Mem) : Prop := ∃ (t0_ : ByteArray) (t1_ : ByteArray) (t11_ : Bool) (M : Mem), e.D = [] ∧ e.v 0 = .string t0_ ∧ e.v 1 = .string t1_ ∧ e.v 11 = .bool t11_ ∧ Pv M [] Mp ∧ S337_1 t0_ t1_ t11_ K X M
theorem br337 {t0 : ByteArray} {t1 : ByteArray} {K : Bool → Mem → Prop} {X : List PanicEntry → Mem → Prop} {M : Mem} (H : S337 t0 t1 K X M) :
  Spec Tryz.prog 337 #[.string t0, .string t1] M (fun v_ M => ∃ (r0 : Bool), v_ = .bool r0 ∧ K r0 M) X := by
 refine spec_of_J (args := [.string t0, .string t1]) Tryz.func337 rfl Tryz.ntmps337 (Nat.le_of_ble_eq_true rfl) ?_
 have hD : (⟨fun i => ([.string t0, .string t1] : List Value).getD i undef, []⟩ : Env).D = [] := rfl
 have hP := Pv.nil M
 have hX := @kx_of Tryz.prog Tryz.f337 (fun v_ M => ∃ (r0 : Bool), v_ = .bool r0 ∧ K r0 M) X
 unfold S337 at H
 refine J_seq ?_
 refine J_region (by decide) ?_
 refine JO_assign (v := .bool false) rfl ?_
 refine JO_nil ?_
 refine J_seq ?_
 refine J_region (by decide) ?_
 refine JO_move (v := .string t0) rfl ?_
 refine JO_call Tryz.call367 (vs := [.string t0]) (mc rfl mn) ((hP.spec H).mono ?_ (fun ch Mp h => hX hD h))
 rintro v Mp ⟨M, hP, r1, rfl, H⟩
 refine JO_move (v := .bool r1) rfl ?_
 refine JO_cut 4 (F337_1 K X) ?_ ?_
 ·
  obtain ⟨H1, H2⟩ := H
  obtain hc_ | hc_ := ff_or_tt r1
  ·
   replace H := H2 hc_
   clear H1 H2
   have hg2 := (congrArg Value.bool hc_ : Value.bool r1 = Value.bool false)
   refine JO_off (s := 7) (c := false) hg2 (by decide) ?_
   refine JO_off (s := 7) (c := false) hg2 (by decide) ?_
   refine JO_off (s := 7) (c := false) hg2 (by decide) ?_
   refine JO_pick (b := false) (v := .bool false) hg2 rfl ?_
   refine JO_nil ?_
   exact (show F337_1 K X _ _ from ⟨t0, t1, false, _, hD, rfl, rfl, rfl, hP, H⟩)
  ·
   replace H := H1 hc_
   clear H1 H2
   have hg3 := (congrArg Value.bool hc_ : Value.bool r1 = Value.bool true)
   refine JO_on (s := 7) hg3 ?_
   refine JO_move (v := .string t1) rfl ?_
   refine JO_on (s := 7) hg3 ?_
   refine JO_call Tryz.call367 (vs := [.string t1]) (mc rfl mn) ((hP.spec H).mono ?_ (fun ch Mp h => hX hD h))
   rintro v Mp ⟨M, hP, r4, rfl, H⟩
   refine JO_on (s := 7) hg3 ?_
   refine JO_not (b := r4) rfl ?_
   refine JO_pick (b := true) (v := .bool (!r4)) hg3 rfl ?_
   refine JO_nil ?_
   exact (show F337_1 K X _ _ from ⟨t0, t1, !r4, _, hD, rfl, rfl, rfl, hP, H⟩)
 ·
  rintro e Mp ⟨t0_, t1_, t11_, M, hD, h0, h1, h11, hP, H⟩
  unfold S337_1 at H
  refine JO_move (v := .bool t11_) h11 ?_
  refine JO_cut 4 (F337_2 K X) ?_ ?_
  ·
   obtain ⟨H1, H2⟩ := H
   obtain hc_ | hc_ := ff_or_tt t11_
   ·
    replace H := H2 hc_
    clear H1 H2
    have hg5 := (congrArg Value.bool hc_ : Value.bool t11_ = Value.bool false)
    refine JO_on (s := 12) hg5 ?_
    refine JO_move (v := .string t0_) h0 ?_
    refine JO_on (s := 12) hg5 ?_
    refine JO_move (v := .string t1_) h1 ?_
    refine JO_on (s := 12) hg5 ?_
    refine JO_scmp (op := .lss) (a := t0_) (b := t1_) (v := .bool (slt t0_ t1_)) rfl rfl rfl ?_
    refine JO_pick (b := false) (v := .bool (slt t0_ t1_)) hg5 rfl ?_
    refine JO_nil ?_
    exact (show F337_2 K X _ _ from ⟨slt t0_ t1_, _, hD, rfl, hP, H⟩)
   ·
    replace H := H1 hc_
    clear H1 H2
    have hg6 := (congrArg Value.bool hc_ : Value.bool t11_ = Value.bool true)
    refine JO_off (s := 12) (c := true) hg6 (by decide) ?_
    refine JO_off (s := 12) (c := true) hg6 (by decide) ?_
    refine JO_off (s := 12) (c := true) hg6 (by decide) ?_
    refine JO_pick (b := true) (v := .bool true) hg6 rfl ?_
    refine JO_nil ?_
    exact (show F337_2 K X _ _ from ⟨true, _, hD, rfl, hP, H⟩)
  ·
   rintro e Mp ⟨t16_, M, hD, h16, hP, H⟩
   unfold S337_2 at H
   refine JO_assign (v := .bool t16_) h16 ?_
   refine JO_nil ?_
   exact J_ret (kret (pan := X)  hD (fun _ _ hb => hP.sub hb) (resOk (rs := [.tmp 4]) (vs := [.bool t16_]) rfl ⟨item_tmp rfl, trivial⟩) ⟨t16_, rfl, H⟩)

/-! slices.rotateLeft[string] -/
/-! slices.Reverse[[]string,string] -/
/-! brazier/digest.turn -/
def S394 (t0 : Int) (t1 : Int) (K : Int → Mem → Prop) (X : List PanicEntry → Mem → Prop) : Mem → Prop :=
 must (0 ≤ t1) <| must (0 ≤ (IntKind.wrap .i64 (32 - t1))) <| K (ior .u32 (ishr .u32 t0 t1) (ishl .u32 t0 (IntKind.wrap .i64 (32 - t1))))
theorem br394 {t0 : Int} {t1 : Int} {K : Int → Mem → Prop} {X : List PanicEntry → Mem → Prop} {M : Mem} (H : S394 t0 t1 K X M) :
  Spec Tryz.prog 394 #[.int .u32 t0, .int .i64 t1] M (fun v_ M => ∃ (r0 : Int), v_ = .int .u32 r0 ∧ K r0 M) X := by
 refine spec_of_J (args := [.int .u32 t0, .int .i64 t1]) Tryz.func394 rfl Tryz.ntmps394 (Nat.le_of_ble_eq_true rfl) ?_
 have hD : (⟨fun i => ([.int .u32 t0, .int .i64 t1] : List Value).getD i undef, []⟩ : Env).D = [] := rfl
 have hP := Pv.nil M
 have hX := @kx_of Tryz.prog Tryz.f394 (fun v_ M => ∃ (r0 : Int), v_ = .int .u32 r0 ∧ K r0 M) X
 unfold S394 at H
 refine J_seq ?_
 refine J_region (by decide) ?_
 refine JO_assign (v := .int .u32 0) rfl ?_
 refine JO_nil ?_
 refine J_seq ?_
 refine J_draw [0, 0, 0, 0, 0, 0, 0, 0, 0] (.cho 0 (.cho 1 (.cho 2 (.cho 3 (.cho 4 (.cho 5 (.cho 6 (.cho 7 (.cho 8 .done .none) .none) .none) .none) .none) .none) .none) .none) .none) rfl (by kernel_rfl) ?_
 refine JE_one ?_
 refine ST0 (fun _ h => by cases h) (fun w => OV_move (v := .int .u32 t0) rfl w) ?_
 refine JE_one ?_
 refine ST0 (fun _ h => by cases h) (fun w => OV_move (v := .int .i64 t1) rfl w) ?_
 refine JE_one ?_
 obtain ⟨g1, H⟩ := H
 refine ST0 (fun _ h => by cases h) (fun w => OV_shift (op := .shr) (k := .u32) (a := t0) (b := t1) (.inr rfl) rfl rfl g1 w) ?_
 refine JE_one ?_
 refine ST0 (fun _ h => by cases h) (fun w => OV_move (v := .int .u32 t0) rfl w) ?_
 refine JE_one ?_
 refine ST0 (fun _ h => by cases h) (fun w => OV_move (v := .int .i64 t1) rfl w) ?_
 refine JE_one ?_
 refine ST0 (fun _ h => by cases h) (fun w => OV_iop (op := .sub) (k := .i64) (a := 32) (b := t1) rfl rfl trivial w) ?_
 refine JE_one ?_
 obtain ⟨g2, H⟩ := H
 refine ST0 (fun _ h => by cases h) (fun w => OV_shift (op := .shl) (k := .u32) (a := t0) (b := IntKind.wrap .i64 (32 - t1)) (.inl rfl) rfl rfl g2 w) ?_
 refine JE_one ?_
 refine ST0 (fun _ h => by cases h) (fun w => OV_iop (op := .or) (k := .u32) (a := ishr .u32 t0 t1) (b := ishl .u32 t0 (IntKind.wrap .i64 (32 - t1))) rfl rfl trivial w) ?_
 refine JE_one ?_
 refine ST0 (fun _ h => by cases h) (fun w => OV_assign (v := .int .u32 (ior .u32 (ishr .u32 t0 t1) (ishl .u32 t0 (IntKind.wrap .i64 (32 - t1))))) rfl w) ?_
 refine JE_done ?_
 exact J_ret (kret (pan := X)  hD (fun _ _ hb => hP.sub hb) (resOk (rs := [.tmp 4]) (vs := [.int .u32 (ior .u32 (ishr .u32 t0 t1) (ishl .u32 t0 (IntKind.wrap .i64 (32 - t1))))]) rfl ⟨item_tmp rfl, trivial⟩) ⟨ior .u32 (ishr .u32 t0 t1) (ishl .u32 t0 (IntKind.wrap .i64 (32 - t1))), rfl, H⟩)

end Go.Proofs.YtdndpmlapcbjaaaGreat

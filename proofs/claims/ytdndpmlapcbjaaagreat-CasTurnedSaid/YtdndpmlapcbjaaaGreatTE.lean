/- Printed by gen.py of this repo. -/
import Derived.Test.YtdndpmlapcbjaaaGreatTB
namespace Go.Proofs.YtdndpmlapcbjaaaGreat
open Go Go.RowKit
set_option linter.unusedVariables false
set_option maxRecDepth 100000

/-! brazier/disk.New -/
def S11 (t0 : Int) (K : Option PA → Mem → Prop) (X : List PanicEntry → Mem → Prop) : Mem → Prop :=
 new (.cells #[Sl.v (⟨none, 0, 0⟩ : Sl), Sl.v (⟨none, 0, 0⟩ : Sl)] 111 (0, 0)) fun b1 => new (.cells #[Sl.v (⟨none, 0, 0⟩ : Sl), Sl.v (⟨none, 0, 0⟩ : Sl)] 111 (0, 0)) fun b2 => new (.cells #[Sl.v (⟨none, 0, 0⟩ : Sl), ptr (some (b1, 0)), ptr (some (b2, 0)), Sl.v (⟨none, 0, 0⟩ : Sl), .int .i64 (if 0 > t0 then 0 else t0), .bool false, .bool false, .int .i64 (-1), .int .i64 0] 115 (0, 0)) fun b3 => K (some (b3, 0))
theorem br11 {t0 : Int} {K : Option PA → Mem → Prop} {X : List PanicEntry → Mem → Prop} {M : Mem} (H : S11 t0 K X M) :
  Spec Tryz.prog 11 #[.int .i64 t0] M (fun v_ M => ∃ (r0 : Option PA), v_ = ptr r0 ∧ K r0 M) X := by
 refine spec_of_J (args := [.int .i64 t0]) Tryz.func11 rfl Tryz.ntmps11 (Nat.le_of_ble_eq_true rfl) ?_
 have hD : (⟨fun i => ([.int .i64 t0] : List Value).getD i undef, []⟩ : Env).D = [] := rfl
 have hP := Pv.nil M
 have hX := @kx_of Tryz.prog Tryz.f11 (fun v_ M => ∃ (r0 : Option PA), v_ = ptr r0 ∧ K r0 M) X
 unfold S11 at H
 refine J_seq ?_
 refine J_region (by decide) ?_
 refine JO_assign (v := ptr none) rfl ?_
 refine JO_nil ?_
 refine J_seq ?_
 refine J_region (by decide) ?_
 refine JO_bld (vs := []) (cs := [Sl.v (⟨none, 0, 0⟩ : Sl), Sl.v (⟨none, 0, 0⟩ : Sl)]) pl_111 zc_111 mpn rfl ?_
 refine JO_box (v := .agg #[Sl.v (⟨none, 0, 0⟩ : Sl), Sl.v (⟨none, 0, 0⟩ : Sl)]) rfl ?_
 intro b1 hb
 replace H := H b1 (hP.out hb).1
 replace hP := hP.new hb (.cells #[Sl.v (⟨none, 0, 0⟩ : Sl), Sl.v (⟨none, 0, 0⟩ : Sl)] 111 (0, 0))
 refine JO_bld (vs := []) (cs := [Sl.v (⟨none, 0, 0⟩ : Sl), Sl.v (⟨none, 0, 0⟩ : Sl)]) pl_111 zc_111 mpn rfl ?_
 refine JO_box (v := .agg #[Sl.v (⟨none, 0, 0⟩ : Sl), Sl.v (⟨none, 0, 0⟩ : Sl)]) rfl ?_
 intro b2 hb
 replace H := H b2 (hP.out hb).1
 replace hP := hP.new hb (.cells #[Sl.v (⟨none, 0, 0⟩ : Sl), Sl.v (⟨none, 0, 0⟩ : Sl)] 111 (0, 0))
 refine JO_move (v := .int .i64 t0) rfl ?_
 refine JO_max (k := .i64) (a := t0) (b := 0) rfl rfl ?_
 refine JO_bld (vs := [(1, ptr (some (b1, 0))), (2, ptr (some (b2, 0))), (4, .int .i64 (if 0 > t0 then 0 else t0)), (7, .int .i64 (-1))]) (cs := [Sl.v (⟨none, 0, 0⟩ : Sl), ptr (some (b1, 0)), ptr (some (b2, 0)), Sl.v (⟨none, 0, 0⟩ : Sl), .int .i64 (if 0 > t0 then 0 else t0), .bool false, .bool false, .int .i64 (-1), .int .i64 0]) pl_115 zc_115 (mpc rfl (mpc rfl (mpc rfl (mpc rfl mpn)))) rfl ?_
 refine JO_box (v := .agg #[Sl.v (⟨none, 0, 0⟩ : Sl), ptr (some (b1, 0)), ptr (some (b2, 0)), Sl.v (⟨none, 0, 0⟩ : Sl), .int .i64 (if 0 > t0 then 0 else t0), .bool false, .bool false, .int .i64 (-1), .int .i64 0]) rfl ?_
 intro b3 hb
 replace H := H b3 (hP.out hb).1
 replace hP := hP.new hb (.cells #[Sl.v (⟨none, 0, 0⟩ : Sl), ptr (some (b1, 0)), ptr (some (b2, 0)), Sl.v (⟨none, 0, 0⟩ : Sl), .int .i64 (if 0 > t0 then 0 else t0), .bool false, .bool false, .int .i64 (-1), .int .i64 0] 115 (0, 0))
 refine JO_assign (v := ptr (some (b3, 0))) rfl ?_
 refine JO_nil ?_
 exact J_ret (kret (pan := X)  hD (fun _ _ hb => hP.sub hb) (resOk (rs := [.tmp 2]) (vs := [ptr (some (b3, 0))]) rfl ⟨item_tmp rfl, trivial⟩) ⟨(some (b3, 0)), rfl, H⟩)

/-! brazier/brazierlaw06.lives -/
def S15_9 (t87_ : Bool) (K : Bool → Mem → Prop) (X : List PanicEntry → Mem → Prop) : Mem → Prop :=
 K t87_
def S15_8 (t6_ : Sl) (t81_ : Bool) (K : Bool → Mem → Prop) (X : List PanicEntry → Mem → Prop) : Mem → Prop :=
 ite' t81_ (ix t6_ 1 1 fun p49 => ldS p49 fun t85_50 => S15_9 (seq t85_50 (⟨#[99, 45, 45, 49]⟩ : ByteArray)) K X) (S15_9 false K X)
def S15_7 (t6_ : Sl) (t75_ : Bool) (K : Bool → Mem → Prop) (X : List PanicEntry → Mem → Prop) : Mem → Prop :=
 ite' t75_ (ix t6_ 1 0 fun p40 => ldS p40 fun t79_41 => S15_8 t6_ (seq t79_41 (⟨#[99, 45, 45, 48]⟩ : ByteArray)) K X) (S15_8 t6_ false K X)
def S15_6 (t6_ : Sl) (t70_ : Bool) (K : Bool → Mem → Prop) (X : List PanicEntry → Mem → Prop) : Mem → Prop :=
 ite' t70_ (S15_7 t6_ ((t6_.n : Int) == 2) K X) (S15_7 t6_ false K X)
def S15_5 (t6_ : Sl) (t9_ : Sl) (t65_ : Bool) (K : Bool → Mem → Prop) (X : List PanicEntry → Mem → Prop) : Mem → Prop :=
 ite' t65_ (b2s t9_ fun x29 => S15_6 t6_ (seq x29 (⟨#[121]⟩ : ByteArray)) K X) (S15_6 t6_ false K X)
def S15_4 (t6_ : Sl) (t7_ : Sl) (t9_ : Sl) (t60_ : Bool) (K : Bool → Mem → Prop) (X : List PanicEntry → Mem → Prop) : Mem → Prop :=
 ite' t60_ (b2s t7_ fun x24 => S15_5 t6_ t9_ (seq x24 (⟨#[120]⟩ : ByteArray)) K X) (S15_5 t6_ t9_ false K X)
def S15_3 (t6_ : Sl) (t7_ : Sl) (t9_ : Sl) (t10_ : Bool) (t57_ : Bool) (K : Bool → Mem → Prop) (X : List PanicEntry → Mem → Prop) : Mem → Prop :=
 ite' t57_ (S15_4 t6_ t7_ t9_ t10_ K X) (S15_4 t6_ t7_ t9_ false K X)
def S15_2 (t6_ : Sl) (t7_ : Sl) (t8_ : Bool) (t9_ : Sl) (t10_ : Bool) (t54_ : Bool) (K : Bool → Mem → Prop) (X : List PanicEntry → Mem → Prop) : Mem → Prop :=
 ite' t54_ (S15_3 t6_ t7_ t9_ t10_ t8_ K X) (S15_3 t6_ t7_ t9_ t10_ false K X)
def S15_1 (t5_ : Int) (t6_ : Sl) (t7_ : Sl) (t8_ : Bool) (t9_ : Sl) (t10_ : Bool) (t50_ : Bool) (K : Bool → Mem → Prop) (X : List PanicEntry → Mem → Prop) : Mem → Prop :=
 ite' t50_ (S15_2 t6_ t7_ t8_ t9_ t10_ (t5_ == 0) K X) (S15_2 t6_ t7_ t8_ t9_ t10_ false K X)
def S15 (K : Bool → Mem → Prop) (X : List PanicEntry → Mem → Prop) : Mem → Prop :=
 call 11 [.int .i64 1000] X fun v_ M => ∃ (r1 : Option PA), v_ = ptr r1 ∧ ( call 12 [ptr r1, .int .i64 0] X fun v_ M => ∃ (r2_0 : Option PA) (r2_1 : Int), v_ = .tuple #[ptr r2_0, .int .i64 r2_1] ∧ ( new (.cells #[.int .u8 107, .int .u8 49] 5 (0, 0)) fun b3 => mark (⟨some (b3, 0), 2, 2⟩ : Sl) <| new (.cells #[.int .u8 120] 5 (0, 0)) fun b4 => mark (⟨some (b4, 0), 1, 1⟩ : Sl) <| call 13 [ptr r2_0, Sl.v (⟨some (b3, 0), 2, 2⟩ : Sl), Sl.v (⟨some (b4, 0), 1, 1⟩ : Sl)] X fun v_ M => ∃ (r5 : Int), v_ = .int .i64 r5 ∧ ( new (.cells #[.int .u8 107, .int .u8 50] 5 (0, 0)) fun b6 => mark (⟨some (b6, 0), 2, 2⟩ : Sl) <| new (.cells #[.int .u8 121] 5 (0, 0)) fun b7 => mark (⟨some (b7, 0), 1, 1⟩ : Sl) <| call 13 [ptr r2_0, Sl.v (⟨some (b6, 0), 2, 2⟩ : Sl), Sl.v (⟨some (b7, 0), 1, 1⟩ : Sl)] X fun v_ M => ∃ (r8 : Int), v_ = .int .i64 r8 ∧ ( call 14 [ptr r1] X fun v_ M => ∃ (r9 : Sl), v_ = Sl.v r9 ∧ ( new (.cells #[.int .u8 107, .int .u8 49] 5 (0, 0)) fun b10 => mark (⟨some (b10, 0), 2, 2⟩ : Sl) <| call 20 [ptr r2_0, Sl.v (⟨some (b10, 0), 2, 2⟩ : Sl)] X fun v_ M => ∃ (r11_0 : Sl) (r11_1 : Bool), v_ = .tuple #[Sl.v r11_0, .bool r11_1] ∧ ( new (.cells #[.int .u8 107, .int .u8 50] 5 (0, 0)) fun b12 => mark (⟨some (b12, 0), 2, 2⟩ : Sl) <| call 20 [ptr r2_0, Sl.v (⟨some (b12, 0), 2, 2⟩ : Sl)] X fun v_ M => ∃ (r13_0 : Sl) (r13_1 : Bool), v_ = .tuple #[Sl.v r13_0, .bool r13_1] ∧ ( ite' (r2_1 == 0) (S15_1 r8 r9 r11_0 r11_1 r13_0 r13_1 (r5 == 0) K X) (S15_1 r8 r9 r11_0 r11_1 r13_0 r13_1 false K X)) M) M) M) M) M) M) M
abbrev F15_9 (K : Bool → Mem → Prop) (X : List PanicEntry → Mem → Prop) (e : Env) (Mp : Mem) : Prop := ∃ (t87_ : Bool) (M : Mem), e.D = [] ∧ e.v 87 = .bool t87_ ∧ Pv M [] Mp ∧ S15_9 t87_ K X M
abbrev F15_8 (K : Bool → Mem → Prop) (X : List PanicEntry → Mem → Prop) (e : Env) (Mp : Mem) : Prop := ∃ (t6_ : Sl) (t81_ : Bool) (M : Mem), e.D = [] ∧ e.v 6 = Sl.v t6_ ∧ e.v 81 = .bool t81_ ∧ Pv M [] Mp ∧ S15_8 t6_ t81_ K X M
abbrev F15_7 (K : Bool → Mem → Prop) (X : List PanicEntry → Mem → Prop) (e : Env) (Mp : Mem) : Prop := ∃ (t6_ : Sl) (t75_ : Bool) (M : Mem), e.D = [] ∧ e.v 6 = Sl.v t6_ ∧ e.v 75 = .bool t75_ ∧ Pv M [] Mp ∧ S15_7 t6_ t75_ K X M
abbrev F15_6 (K : Bool → Mem → Prop) (X : List PanicEntry → Mem → Prop) (e : Env) (Mp : Mem) : Prop := ∃ (t6_ : Sl) (t70_ : Bool) (M : Mem), e.D = [] ∧ e.v 6 = Sl.v t6_ ∧ e.v 70 = .bool t70_ ∧ Pv M [] Mp ∧ S15_6 t6_ t70_ K X M
abbrev F15_5 (K : Bool → Mem → Prop) (X : List PanicEntry → Mem → Prop) (e : Env) (Mp : Mem) : Prop := ∃ (t6_ : Sl) (t9_ : Sl) (t65_ : Bool) (M : Mem), e.D = [] ∧ e.v 6 = Sl.v t6_ ∧ e.v 9 = Sl.v t9_ ∧ e.v 65 = .bool t65_ ∧ Pv M [] Mp ∧ S15_5 t6_ t9_ t65_ K X M
abbrev F15_4 (K : Bool → Mem → Prop) (X : List PanicEntry → Mem → Prop) (e : Env) (Mp : Mem) : Prop := ∃ (t6_ : Sl) (t7_ : Sl) (t9_ : Sl) (t60_ : Bool) (M : Mem), e.D = [] ∧ e.v 6 = Sl.v t6_ ∧ e.v 7 = Sl.v t7_ ∧ e.v 9 = Sl.v t9_ ∧ e.v 60 = .bool t60_ ∧ Pv M [] Mp ∧ S15_4 t6_ t7_ t9_ t60_ K X M
abbrev F15_3 (K : Bool → Mem → Prop) (X : List PanicEntry → Mem → Prop) (e : Env) (Mp : Mem) : Prop := ∃ (t6_ : Sl) (t7_ : Sl) (t9_ : Sl) (t10_ : Bool) (t57_ : Bool) (M : Mem), e.D = [] ∧ e.v 6 = Sl.v t6_ ∧ e.v 7 = Sl.v t7_ ∧ e.v 9 = Sl.v t9_ ∧ e.v 10 = .bool t10_ ∧ e.v 57 = .bool t57_ ∧ Pv M [] Mp ∧ S15_3 t6_ t7_ t9_ t10_ t57_ K X M
abbrev F15_2 (K : Bool → Mem → Prop) (X : List PanicEntry → Mem → Prop) (e : Env) (Mp : Mem) : Prop := ∃ (t6_ : Sl) (t7_ : Sl) (t8_ : Bool) (t9_ : Sl) (t10_ : Bool) (t54_ : Bool) (M : Mem), e.D = [] ∧ e.v 6 = Sl.v t6_ ∧ e.v 7 = Sl.v t7_ ∧ e.v 8 = .bool t8_ ∧ e.v 9 = Sl.v t9_ ∧ e.v 10 = .bool t10_ ∧ e.v 54 = .bool t54_ ∧ Pv M [] Mp ∧ S15_2 t6_ t7_ t8_ t9_ t10_ t54_ K X M
abbrev F15_1 (K : Bool → Mem → Prop) (X : List PanicEntry → Mem → Prop) (e : Env) (Mp : Mem) : Prop := ∃ (t5_ : Int) (t6_ : Sl) (t7_ : Sl) (t8_ : Bool) (t9_ : Sl) (t10_ : Bool) (t50_ : Bool) (M : Mem), e.D = [] ∧ e.v 5 = .int .i64 t5_ ∧ e.v 6 = Sl.v t6_ ∧ e.v 7 = Sl.v t7_ ∧ e.v 8 = .bool t8_ ∧ e.v 9 = Sl.v t9_ ∧ e.v 10 = .bool t10_ ∧ e.v 50 = .bool t50_ ∧ Pv M [] Mp ∧ S15_1 t5_ t6_ t7_ t8_ t9_ t10_ t50_ K X M
theorem br15 {K : Bool → Mem → Prop} {X : List PanicEntry → Mem → Prop} {M : Mem} (H : S15  K X M) :
  Spec Tryz.prog 15 #[] M (fun v_ M => ∃ (r0 : Bool), v_ = .bool r0 ∧ K r0 M) X := by
 refine spec_of_J (args := []) Tryz.func15 rfl Tryz.ntmps15 (Nat.le_of_ble_eq_true rfl) ?_
 have hD : (⟨fun i => ([] : List Value).getD i undef, []⟩ : Env).D = [] := rfl
 have hP := Pv.nil M
 have hX := @kx_of Tryz.prog Tryz.f15 (fun v_ M => ∃ (r0 : Bool), v_ = .bool r0 ∧ K r0 M) X
 unfold S15 at H
 refine J_seq ?_
 refine J_region (by decide) ?_
 refine JO_assign (v := .bool false) rfl ?_
 refine JO_nil ?_
 refine J_seq ?_
 refine J_region (by decide) ?_
 refine JO_call Tryz.call11 (vs := [.int .i64 1000]) (mc rfl mn) ((hP.spec H).mono ?_ (fun ch Mp h => hX hD h))
 rintro v Mp ⟨M, hP, r1, rfl, H⟩
 refine JO_assign (v := ptr r1) rfl ?_
 refine JO_nil ?_
 refine J_seq ?_
 refine J_region (by decide) ?_
 refine JO_move (v := ptr r1) rfl ?_
 refine JO_call Tryz.call12 (vs := [ptr r1, .int .i64 0]) (mc rfl (mc rfl mn)) ((hP.spec H).mono ?_ (fun ch Mp h => hX hD h))
 rintro v Mp ⟨M, hP, r2_0, r2_1, rfl, H⟩
 refine JO_move (v := .tuple #[ptr r2_0, .int .i64 r2_1]) rfl ?_
 refine JO_extract (vs := #[ptr r2_0, .int .i64 r2_1]) (v := ptr r2_0) rfl rfl ?_
 refine JO_extract (vs := #[ptr r2_0, .int .i64 r2_1]) (v := .int .i64 r2_1) rfl rfl ?_
 refine JO_assign (v := ptr r2_0) rfl ?_
 refine JO_assign (v := .int .i64 r2_1) rfl ?_
 refine JO_nil ?_
 refine J_seq ?_
 refine J_region (by decide) ?_
 refine JO_move (v := ptr r2_0) rfl ?_
 refine JO_bsl (vs := [(0, .int .u8 107), (1, .int .u8 49)]) (cs := [.int .u8 107, .int .u8 49]) (c0 := [.int .u8 0, .int .u8 0]) ul_32 sz_5 zc_5 (by kernel_rfl) (by decide) (by decide) (mpc rfl (mpc rfl mpn)) rfl ?_
 intro b3 hb
 replace H := H b3 (hP.out hb).1
 replace hP := hP.new hb (.cells #[.int .u8 107, .int .u8 49] 5 (0, 0))
 refine JO_loud ((hP.opJ (OpJ_mark (s := (⟨some (b3, 0), 2, 2⟩ : Sl)) ul_32 ul_5 rfl H)).mono (fun _ _ h => h) (fun _ _ ⟨_, _, f⟩ => f.elim)) ?_
 rintro _ Mp ⟨M, hP, rfl, H⟩
 refine JO_bsl (vs := [(0, .int .u8 120)]) (cs := [.int .u8 120]) (c0 := [.int .u8 0]) ul_32 sz_5 zc_5 (by kernel_rfl) (by decide) (by decide) (mpc rfl mpn) rfl ?_
 intro b4 hb
 replace H := H b4 (hP.out hb).1
 replace hP := hP.new hb (.cells #[.int .u8 120] 5 (0, 0))
 refine JO_loud ((hP.opJ (OpJ_mark (s := (⟨some (b4, 0), 1, 1⟩ : Sl)) ul_32 ul_5 rfl H)).mono (fun _ _ h => h) (fun _ _ ⟨_, _, f⟩ => f.elim)) ?_
 rintro _ Mp ⟨M, hP, rfl, H⟩
 refine JO_call Tryz.call13 (vs := [ptr r2_0, Sl.v (⟨some (b3, 0), 2, 2⟩ : Sl), Sl.v (⟨some (b4, 0), 1, 1⟩ : Sl)]) (mc rfl (mc rfl (mc rfl mn))) ((hP.spec H).mono ?_ (fun ch Mp h => hX hD h))
 rintro v Mp ⟨M, hP, r5, rfl, H⟩
 refine JO_move (v := ptr r2_0) rfl ?_
 refine JO_bsl (vs := [(0, .int .u8 107), (1, .int .u8 50)]) (cs := [.int .u8 107, .int .u8 50]) (c0 := [.int .u8 0, .int .u8 0]) ul_32 sz_5 zc_5 (by kernel_rfl) (by decide) (by decide) (mpc rfl (mpc rfl mpn)) rfl ?_
 intro b6 hb
 replace H := H b6 (hP.out hb).1
 replace hP := hP.new hb (.cells #[.int .u8 107, .int .u8 50] 5 (0, 0))
 refine JO_loud ((hP.opJ (OpJ_mark (s := (⟨some (b6, 0), 2, 2⟩ : Sl)) ul_32 ul_5 rfl H)).mono (fun _ _ h => h) (fun _ _ ⟨_, _, f⟩ => f.elim)) ?_
 rintro _ Mp ⟨M, hP, rfl, H⟩
 refine JO_bsl (vs := [(0, .int .u8 121)]) (cs := [.int .u8 121]) (c0 := [.int .u8 0]) ul_32 sz_5 zc_5 (by kernel_rfl) (by decide) (by decide) (mpc rfl mpn) rfl ?_
 intro b7 hb
 replace H := H b7 (hP.out hb).1
 replace hP := hP.new hb (.cells #[.int .u8 121] 5 (0, 0))
 refine JO_loud ((hP.opJ (OpJ_mark (s := (⟨some (b7, 0), 1, 1⟩ : Sl)) ul_32 ul_5 rfl H)).mono (fun _ _ h => h) (fun _ _ ⟨_, _, f⟩ => f.elim)) ?_
 rintro _ Mp ⟨M, hP, rfl, H⟩
 refine JO_call Tryz.call13 (vs := [ptr r2_0, Sl.v (⟨some (b6, 0), 2, 2⟩ : Sl), Sl.v (⟨some (b7, 0), 1, 1⟩ : Sl)]) (mc rfl (mc rfl (mc rfl mn))) ((hP.spec H).mono ?_ (fun ch Mp h => hX hD h))
 rintro v Mp ⟨M, hP, r8, rfl, H⟩
 refine JO_assign (v := .int .i64 r5) rfl ?_
 refine JO_assign (v := .int .i64 r8) rfl ?_
 refine JO_nil ?_
 refine J_seq ?_
 refine J_region (by decide) ?_
 refine JO_move (v := ptr r1) rfl ?_
 refine JO_call Tryz.call14 (vs := [ptr r1]) (mc rfl mn) ((hP.spec H).mono ?_ (fun ch Mp h => hX hD h))
 rintro v Mp ⟨M, hP, r9, rfl, H⟩
 refine JO_assign (v := Sl.v r9) rfl ?_
 refine JO_nil ?_
 refine J_seq ?_
 refine J_region (by decide) ?_
 refine JO_move (v := ptr r2_0) rfl ?_
 refine JO_bsl (vs := [(0, .int .u8 107), (1, .int .u8 49)]) (cs := [.int .u8 107, .int .u8 49]) (c0 := [.int .u8 0, .int .u8 0]) ul_32 sz_5 zc_5 (by kernel_rfl) (by decide) (by decide) (mpc rfl (mpc rfl mpn)) rfl ?_
 intro b10 hb
 replace H := H b10 (hP.out hb).1
 replace hP := hP.new hb (.cells #[.int .u8 107, .int .u8 49] 5 (0, 0))
 refine JO_loud ((hP.opJ (OpJ_mark (s := (⟨some (b10, 0), 2, 2⟩ : Sl)) ul_32 ul_5 rfl H)).mono (fun _ _ h => h) (fun _ _ ⟨_, _, f⟩ => f.elim)) ?_
 rintro _ Mp ⟨M, hP, rfl, H⟩
 refine JO_call Tryz.call20 (vs := [ptr r2_0, Sl.v (⟨some (b10, 0), 2, 2⟩ : Sl)]) (mc rfl (mc rfl mn)) ((hP.spec H).mono ?_ (fun ch Mp h => hX hD h))
 rintro v Mp ⟨M, hP, r11_0, r11_1, rfl, H⟩
 refine JO_move (v := .tuple #[Sl.v r11_0, .bool r11_1]) rfl ?_
 refine JO_extract (vs := #[Sl.v r11_0, .bool r11_1]) (v := Sl.v r11_0) rfl rfl ?_
 refine JO_extract (vs := #[Sl.v r11_0, .bool r11_1]) (v := .bool r11_1) rfl rfl ?_
 refine JO_assign (v := Sl.v r11_0) rfl ?_
 refine JO_assign (v := .bool r11_1) rfl ?_
 refine JO_nil ?_
 refine J_seq ?_
 refine J_region (by decide) ?_
 refine JO_move (v := ptr r2_0) rfl ?_
 refine JO_bsl (vs := [(0, .int .u8 107), (1, .int .u8 50)]) (cs := [.int .u8 107, .int .u8 50]) (c0 := [.int .u8 0, .int .u8 0]) ul_32 sz_5 zc_5 (by kernel_rfl) (by decide) (by decide) (mpc rfl (mpc rfl mpn)) rfl ?_
 intro b12 hb
 replace H := H b12 (hP.out hb).1
 replace hP := hP.new hb (.cells #[.int .u8 107, .int .u8 50] 5 (0, 0))
 refine JO_loud ((hP.opJ (OpJ_mark (s := (⟨some (b12, 0), 2, 2⟩ : Sl)) ul_32 ul_5 rfl H)).mono (fun _ _ h => h) (fun _ _ ⟨_, _, f⟩ => f.elim)) ?_
 rintro _ Mp ⟨M, hP, rfl, H⟩
 refine JO_call Tryz.call20 (vs := [ptr r2_0, Sl.v (⟨some (b12, 0), 2, 2⟩ : Sl)]) (mc rfl (mc rfl mn)) ((hP.spec H).mono ?_ (fun ch Mp h => hX hD h))
 rintro v Mp ⟨M, hP, r13_0, r13_1, rfl, H⟩
 refine JO_move (v := .tuple #[Sl.v r13_0, .bool r13_1]) rfl ?_
 refine JO_extract (vs := #[Sl.v r13_0, .bool r13_1]) (v := Sl.v r13_0) rfl rfl ?_
 refine JO_extract (vs := #[Sl.v r13_0, .bool r13_1]) (v := .bool r13_1) rfl rfl ?_
 refine JO_assign (v := Sl.v r13_0) rfl ?_
 refine JO_assign (v := .bool r13_1) rfl ?_
 refine JO_nil ?_
 refine J_seq ?_
 refine J_region (by decide) ?_
 refine JO_move (v := .int .i64 r2_1) rfl ?_
 refine JO_iop (op := .eql) (k := .i64) (a := r2_1) (b := 0) rfl rfl trivial ?_
 refine JO_move (v := .bool (r2_1 == 0)) rfl ?_
 refine JO_cut 3 (F15_1 K X) ?_ ?_
 ·
  obtain ⟨H1, H2⟩ := H
  obtain hc_ | hc_ := ff_or_tt (r2_1 == 0)
  ·
   replace H := H2 hc_
   clear H1 H2
   have hg14 := (congrArg Value.bool hc_ : Value.bool (r2_1 == 0) = Value.bool false)
   refine JO_off (s := 47) (c := false) hg14 (by decide) ?_
   refine JO_off (s := 47) (c := false) hg14 (by decide) ?_
   refine JO_pick (b := false) (v := .bool false) hg14 rfl ?_
   refine JO_nil ?_
   exact (show F15_1 K X _ _ from ⟨r8, r9, r11_0, r11_1, r13_0, r13_1, false, _, hD, rfl, rfl, rfl, rfl, rfl, rfl, rfl, hP, H⟩)
  ·
   replace H := H1 hc_
   clear H1 H2
   have hg15 := (congrArg Value.bool hc_ : Value.bool (r2_1 == 0) = Value.bool true)
   refine JO_on (s := 47) hg15 ?_
   refine JO_move (v := .int .i64 r5) rfl ?_
   refine JO_on (s := 47) hg15 ?_
   refine JO_iop (op := .eql) (k := .i64) (a := r5) (b := 0) rfl rfl trivial ?_
   refine JO_pick (b := true) (v := .bool (r5 == 0)) hg15 rfl ?_
   refine JO_nil ?_
   exact (show F15_1 K X _ _ from ⟨r8, r9, r11_0, r11_1, r13_0, r13_1, r5 == 0, _, hD, rfl, rfl, rfl, rfl, rfl, rfl, rfl, hP, H⟩)
 ·
  rintro e Mp ⟨t5_, t6_, t7_, t8_, t9_, t10_, t50_, M, hD, h5, h6, h7, h8, h9, h10, h50, hP, H⟩
  unfold S15_1 at H
  refine JO_move (v := .bool t50_) h50 ?_
  refine JO_cut 3 (F15_2 K X) ?_ ?_
  ·
   obtain ⟨H1, H2⟩ := H
   obtain hc_ | hc_ := ff_or_tt t50_
   ·
    replace H := H2 hc_
    clear H1 H2
    have hg16 := (congrArg Value.bool hc_ : Value.bool t50_ = Value.bool false)
    refine JO_off (s := 51) (c := false) hg16 (by decide) ?_
    refine JO_off (s := 51) (c := false) hg16 (by decide) ?_
    refine JO_pick (b := false) (v := .bool false) hg16 rfl ?_
    refine JO_nil ?_
    exact (show F15_2 K X _ _ from ⟨t6_, t7_, t8_, t9_, t10_, false, _, hD, h6, h7, h8, h9, h10, rfl, hP, H⟩)
   ·
    replace H := H1 hc_
    clear H1 H2
    have hg17 := (congrArg Value.bool hc_ : Value.bool t50_ = Value.bool true)
    refine JO_on (s := 51) hg17 ?_
    refine JO_move (v := .int .i64 t5_) h5 ?_
    refine JO_on (s := 51) hg17 ?_
    refine JO_iop (op := .eql) (k := .i64) (a := t5_) (b := 0) rfl rfl trivial ?_
    refine JO_pick (b := true) (v := .bool (t5_ == 0)) hg17 rfl ?_
    refine JO_nil ?_
    exact (show F15_2 K X _ _ from ⟨t6_, t7_, t8_, t9_, t10_, t5_ == 0, _, hD, h6, h7, h8, h9, h10, rfl, hP, H⟩)
  ·
   rintro e Mp ⟨t6_, t7_, t8_, t9_, t10_, t54_, M, hD, h6, h7, h8, h9, h10, h54, hP, H⟩
   unfold S15_2 at H
   refine JO_move (v := .bool t54_) h54 ?_
   refine JO_cut 2 (F15_3 K X) ?_ ?_
   ·
    obtain ⟨H1, H2⟩ := H
    obtain hc_ | hc_ := ff_or_tt t54_
    ·
     replace H := H2 hc_
     clear H1 H2
     have hg18 := (congrArg Value.bool hc_ : Value.bool t54_ = Value.bool false)
     refine JO_off (s := 55) (c := false) hg18 (by decide) ?_
     refine JO_pick (b := false) (v := .bool false) hg18 rfl ?_
     refine JO_nil ?_
     exact (show F15_3 K X _ _ from ⟨t6_, t7_, t9_, t10_, false, _, hD, h6, h7, h9, h10, rfl, hP, H⟩)
    ·
     replace H := H1 hc_
     clear H1 H2
     have hg19 := (congrArg Value.bool hc_ : Value.bool t54_ = Value.bool true)
     refine JO_on (s := 55) hg19 ?_
     refine JO_move (v := .bool t8_) h8 ?_
     refine JO_pick (b := true) (v := .bool t8_) hg19 rfl ?_
     refine JO_nil ?_
     exact (show F15_3 K X _ _ from ⟨t6_, t7_, t9_, t10_, t8_, _, hD, h6, h7, h9, h10, rfl, hP, H⟩)
   ·
    rintro e Mp ⟨t6_, t7_, t9_, t10_, t57_, M, hD, h6, h7, h9, h10, h57, hP, H⟩
    unfold S15_3 at H
    refine JO_move (v := .bool t57_) h57 ?_
    refine JO_cut 2 (F15_4 K X) ?_ ?_
    ·
     obtain ⟨H1, H2⟩ := H
     obtain hc_ | hc_ := ff_or_tt t57_
     ·
      replace H := H2 hc_
      clear H1 H2
      have hg20 := (congrArg Value.bool hc_ : Value.bool t57_ = Value.bool false)
      refine JO_off (s := 58) (c := false) hg20 (by decide) ?_
      refine JO_pick (b := false) (v := .bool false) hg20 rfl ?_
      refine JO_nil ?_
      exact (show F15_4 K X _ _ from ⟨t6_, t7_, t9_, false, _, hD, h6, h7, h9, rfl, hP, H⟩)
     ·
      replace H := H1 hc_
      clear H1 H2
      have hg21 := (congrArg Value.bool hc_ : Value.bool t57_ = Value.bool true)
      refine JO_on (s := 58) hg21 ?_
      refine JO_move (v := .bool t10_) h10 ?_
      refine JO_pick (b := true) (v := .bool t10_) hg21 rfl ?_
      refine JO_nil ?_
      exact (show F15_4 K X _ _ from ⟨t6_, t7_, t9_, t10_, _, hD, h6, h7, h9, rfl, hP, H⟩)
    ·
     rintro e Mp ⟨t6_, t7_, t9_, t60_, M, hD, h6, h7, h9, h60, hP, H⟩
     unfold S15_4 at H
     refine JO_move (v := .bool t60_) h60 ?_
     refine JO_cut 4 (F15_5 K X) ?_ ?_
     ·
      obtain ⟨H1, H2⟩ := H
      obtain hc_ | hc_ := ff_or_tt t60_
      ·
       replace H := H2 hc_
       clear H1 H2
       have hg22 := (congrArg Value.bool hc_ : Value.bool t60_ = Value.bool false)
       refine JO_off (s := 61) (c := false) hg22 (by decide) ?_
       refine JO_off (s := 61) (c := false) hg22 (by decide) ?_
       refine JO_off (s := 61) (c := false) hg22 (by decide) ?_
       refine JO_pick (b := false) (v := .bool false) hg22 rfl ?_
       refine JO_nil ?_
       exact (show F15_5 K X _ _ from ⟨t6_, t9_, false, _, hD, h6, h9, rfl, hP, H⟩)
      ·
       replace H := H1 hc_
       clear H1 H2
       have hg23 := (congrArg Value.bool hc_ : Value.bool t60_ = Value.bool true)
       refine JO_on (s := 61) hg23 ?_
       refine JO_move (v := Sl.v t7_) h7 ?_
       refine JO_on (s := 61) hg23 ?_
       obtain ⟨x24, g25, g26, H⟩ := H
       refine JO_b2s (s := t7_) (b := x24) ul_32 ul_5 ul_9 rfl (hP.rdc g25) g26 ?_
       refine JO_on (s := 61) hg23 ?_
       refine JO_scmp (op := .eql) (a := x24) (b := (⟨#[120]⟩ : ByteArray)) (v := .bool (seq x24 (⟨#[120]⟩ : ByteArray))) rfl rfl rfl ?_
       refine JO_pick (b := true) (v := .bool (seq x24 (⟨#[120]⟩ : ByteArray))) hg23 rfl ?_
       refine JO_nil ?_
       exact (show F15_5 K X _ _ from ⟨t6_, t9_, seq x24 (⟨#[120]⟩ : ByteArray), _, hD, h6, h9, rfl, hP, H⟩)
     ·
      rintro e Mp ⟨t6_, t9_, t65_, M, hD, h6, h9, h65, hP, H⟩
      unfold S15_5 at H
      refine JO_move (v := .bool t65_) h65 ?_
      refine JO_cut 4 (F15_6 K X) ?_ ?_
      ·
       obtain ⟨H1, H2⟩ := H
       obtain hc_ | hc_ := ff_or_tt t65_
       ·
        replace H := H2 hc_
        clear H1 H2
        have hg27 := (congrArg Value.bool hc_ : Value.bool t65_ = Value.bool false)
        refine JO_off (s := 66) (c := false) hg27 (by decide) ?_
        refine JO_off (s := 66) (c := false) hg27 (by decide) ?_
        refine JO_off (s := 66) (c := false) hg27 (by decide) ?_
        refine JO_pick (b := false) (v := .bool false) hg27 rfl ?_
        refine JO_nil ?_
        exact (show F15_6 K X _ _ from ⟨t6_, false, _, hD, h6, rfl, hP, H⟩)
       ·
        replace H := H1 hc_
        clear H1 H2
        have hg28 := (congrArg Value.bool hc_ : Value.bool t65_ = Value.bool true)
        refine JO_on (s := 66) hg28 ?_
        refine JO_move (v := Sl.v t9_) h9 ?_
        refine JO_on (s := 66) hg28 ?_
        obtain ⟨x29, g30, g31, H⟩ := H
        refine JO_b2s (s := t9_) (b := x29) ul_32 ul_5 ul_9 rfl (hP.rdc g30) g31 ?_
        refine JO_on (s := 66) hg28 ?_
        refine JO_scmp (op := .eql) (a := x29) (b := (⟨#[121]⟩ : ByteArray)) (v := .bool (seq x29 (⟨#[121]⟩ : ByteArray))) rfl rfl rfl ?_
        refine JO_pick (b := true) (v := .bool (seq x29 (⟨#[121]⟩ : ByteArray))) hg28 rfl ?_
        refine JO_nil ?_
        exact (show F15_6 K X _ _ from ⟨t6_, seq x29 (⟨#[121]⟩ : ByteArray), _, hD, h6, rfl, hP, H⟩)
      ·
       rintro e Mp ⟨t6_, t70_, M, hD, h6, h70, hP, H⟩
       unfold S15_6 at H
       refine JO_move (v := .bool t70_) h70 ?_
       refine JO_cut 4 (F15_7 K X) ?_ ?_
       ·
        obtain ⟨H1, H2⟩ := H
        obtain hc_ | hc_ := ff_or_tt t70_
        ·
         replace H := H2 hc_
         clear H1 H2
         have hg32 := (congrArg Value.bool hc_ : Value.bool t70_ = Value.bool false)
         refine JO_off (s := 71) (c := false) hg32 (by decide) ?_
         refine JO_off (s := 71) (c := false) hg32 (by decide) ?_
         refine JO_off (s := 71) (c := false) hg32 (by decide) ?_
         refine JO_pick (b := false) (v := .bool false) hg32 rfl ?_
         refine JO_nil ?_
         exact (show F15_7 K X _ _ from ⟨t6_, false, _, hD, h6, rfl, hP, H⟩)
        ·
         replace H := H1 hc_
         clear H1 H2
         have hg33 := (congrArg Value.bool hc_ : Value.bool t70_ = Value.bool true)
         refine JO_on (s := 71) hg33 ?_
         refine JO_move (v := Sl.v t6_) h6 ?_
         refine JO_on (s := 71) hg33 ?_
         refine JO_len (s := t6_) is_36 rfl ?_
         refine JO_on (s := 71) hg33 ?_
         refine JO_iop (op := .eql) (k := .i64) (a := (t6_.n : Int)) (b := 2) rfl rfl trivial ?_
         refine JO_pick (b := true) (v := .bool ((t6_.n : Int) == 2)) hg33 rfl ?_
         refine JO_nil ?_
         exact (show F15_7 K X _ _ from ⟨t6_, (t6_.n : Int) == 2, _, hD, h6, rfl, hP, H⟩)
       ·
        rintro e Mp ⟨t6_, t75_, M, hD, h6, h75, hP, H⟩
        unfold S15_7 at H
        refine JO_move (v := .bool t75_) h75 ?_
        refine JO_cut 5 (F15_8 K X) ?_ ?_
        ·
         obtain ⟨H1, H2⟩ := H
         obtain hc_ | hc_ := ff_or_tt t75_
         ·
          replace H := H2 hc_
          clear H1 H2
          have hg34 := (congrArg Value.bool hc_ : Value.bool t75_ = Value.bool false)
          refine JO_off (s := 76) (c := false) hg34 (by decide) ?_
          refine JO_off (s := 76) (c := false) hg34 (by decide) ?_
          refine JO_off (s := 76) (c := false) hg34 (by decide) ?_
          refine JO_off (s := 76) (c := false) hg34 (by decide) ?_
          refine JO_pick (b := false) (v := .bool false) hg34 rfl ?_
          refine JO_nil ?_
          exact (show F15_8 K X _ _ from ⟨t6_, false, _, hD, h6, rfl, hP, H⟩)
         ·
          replace H := H1 hc_
          clear H1 H2
          have hg35 := (congrArg Value.bool hc_ : Value.bool t75_ = Value.bool true)
          refine JO_on (s := 76) hg35 ?_
          refine JO_move (v := Sl.v t6_) h6 ?_
          refine JO_on (s := 76) hg35 ?_
          obtain ⟨a36, g37, g38, g39, H⟩ := H
          refine JO_indexAddr (s := t6_) (p := a36) (i := 0) es_36 rfl rfl g37 g38 g39 ?_
          obtain ⟨p40, hq_⟩ : ∃ q : PA, q = (a36.1, a36.2 + (0 : Int).toNat * 1) := ⟨_, rfl⟩; rw [← hq_] at H ⊢; clear hq_
          refine JO_on (s := 76) hg35 ?_
          obtain ⟨t79_41, g42, H⟩ := H
          refine JO_load (p := p40) (v := .string t79_41) na_9 rfl (hP.cel g42) ?_
          refine JO_on (s := 76) hg35 ?_
          refine JO_scmp (op := .eql) (a := t79_41) (b := (⟨#[99, 45, 45, 48]⟩ : ByteArray)) (v := .bool (seq t79_41 (⟨#[99, 45, 45, 48]⟩ : ByteArray))) rfl rfl rfl ?_
          refine JO_pick (b := true) (v := .bool (seq t79_41 (⟨#[99, 45, 45, 48]⟩ : ByteArray))) hg35 rfl ?_
          refine JO_nil ?_
          exact (show F15_8 K X _ _ from ⟨t6_, seq t79_41 (⟨#[99, 45, 45, 48]⟩ : ByteArray), _, hD, h6, rfl, hP, H⟩)
        ·
         rintro e Mp ⟨t6_, t81_, M, hD, h6, h81, hP, H⟩
         unfold S15_8 at H
         refine JO_move (v := .bool t81_) h81 ?_
         refine JO_cut 5 (F15_9 K X) ?_ ?_
         ·
          obtain ⟨H1, H2⟩ := H
          obtain hc_ | hc_ := ff_or_tt t81_
          ·
           replace H := H2 hc_
           clear H1 H2
           have hg43 := (congrArg Value.bool hc_ : Value.bool t81_ = Value.bool false)
           refine JO_off (s := 82) (c := false) hg43 (by decide) ?_
           refine JO_off (s := 82) (c := false) hg43 (by decide) ?_
           refine JO_off (s := 82) (c := false) hg43 (by decide) ?_
           refine JO_off (s := 82) (c := false) hg43 (by decide) ?_
           refine JO_pick (b := false) (v := .bool false) hg43 rfl ?_
           refine JO_nil ?_
           exact (show F15_9 K X _ _ from ⟨false, _, hD, rfl, hP, H⟩)
          ·
           replace H := H1 hc_
           clear H1 H2
           have hg44 := (congrArg Value.bool hc_ : Value.bool t81_ = Value.bool true)
           refine JO_on (s := 82) hg44 ?_
           refine JO_move (v := Sl.v t6_) h6 ?_
           refine JO_on (s := 82) hg44 ?_
           obtain ⟨a45, g46, g47, g48, H⟩ := H
           refine JO_indexAddr (s := t6_) (p := a45) (i := 1) es_36 rfl rfl g46 g47 g48 ?_
           obtain ⟨p49, hq_⟩ : ∃ q : PA, q = (a45.1, a45.2 + (1 : Int).toNat * 1) := ⟨_, rfl⟩; rw [← hq_] at H ⊢; clear hq_
           refine JO_on (s := 82) hg44 ?_
           obtain ⟨t85_50, g51, H⟩ := H
           refine JO_load (p := p49) (v := .string t85_50) na_9 rfl (hP.cel g51) ?_
           refine JO_on (s := 82) hg44 ?_
           refine JO_scmp (op := .eql) (a := t85_50) (b := (⟨#[99, 45, 45, 49]⟩ : ByteArray)) (v := .bool (seq t85_50 (⟨#[99, 45, 45, 49]⟩ : ByteArray))) rfl rfl rfl ?_
           refine JO_pick (b := true) (v := .bool (seq t85_50 (⟨#[99, 45, 45, 49]⟩ : ByteArray))) hg44 rfl ?_
           refine JO_nil ?_
           exact (show F15_9 K X _ _ from ⟨seq t85_50 (⟨#[99, 45, 45, 49]⟩ : ByteArray), _, hD, rfl, hP, H⟩)
         ·
          rintro e Mp ⟨t87_, M, hD, h87, hP, H⟩
          unfold S15_9 at H
          refine JO_assign (v := .bool t87_) h87 ?_
          refine JO_nil ?_
          exact J_ret (kret (pan := X)  hD (fun _ _ hb => hP.sub hb) (resOk (rs := [.tmp 0]) (vs := [.bool t87_]) rfl ⟨item_tmp rfl, trivial⟩) ⟨t87_, rfl, H⟩)

/-! (*brazier/cas.Store).Get -/
def S20 (t0 : Option PA) (t1 : Sl) (K : Sl → Bool → Mem → Prop) (X : List PanicEntry → Mem → Prop) : Mem → Prop :=
 call 60 [ptr t0, Sl.v t1] X fun v_ M => ∃ (r1_0_0 : ByteArray) (r1_0_1 : Bool) (r1_0_2 : Bool) (r1_0_3 : Sl) (r1_0_4 : Sl) (r1_1 : Bool), v_ = .tuple #[.agg #[.string r1_0_0, .bool r1_0_1, .bool r1_0_2, Sl.v r1_0_3, Sl.v r1_0_4], .bool r1_1] ∧ ( K r1_0_4 r1_1) M
theorem br20 {t0 : Option PA} {t1 : Sl} {K : Sl → Bool → Mem → Prop} {X : List PanicEntry → Mem → Prop} {M : Mem} (H : S20 t0 t1 K X M) :
  Spec Tryz.prog 20 #[ptr t0, Sl.v t1] M (fun v_ M => ∃ (r0 : Sl) (r1 : Bool), v_ = .tuple #[Sl.v r0, .bool r1] ∧ K r0 r1 M) X := by
 refine spec_of_J (args := [ptr t0, Sl.v t1]) Tryz.func20 rfl Tryz.ntmps20 (Nat.le_of_ble_eq_true rfl) ?_
 have hD : (⟨fun i => ([ptr t0, Sl.v t1] : List Value).getD i undef, []⟩ : Env).D = [] := rfl
 have hP := Pv.nil M
 have hX := @kx_of Tryz.prog Tryz.f20 (fun v_ M => ∃ (r0 : Sl) (r1 : Bool), v_ = .tuple #[Sl.v r0, .bool r1] ∧ K r0 r1 M) X
 unfold S20 at H
 refine J_seq ?_
 refine J_region (by decide) ?_
 refine JO_assign (v := Sl.v (⟨none, 0, 0⟩ : Sl)) rfl ?_
 refine JO_assign (v := .bool false) rfl ?_
 refine JO_nil ?_
 refine J_seq ?_
 refine J_region (by decide) ?_
 refine JO_move (v := ptr t0) rfl ?_
 refine JO_move (v := Sl.v t1) rfl ?_
 refine JO_call Tryz.call60 (vs := [ptr t0, Sl.v t1]) (mc rfl (mc rfl mn)) ((hP.spec H).mono ?_ (fun ch Mp h => hX hD h))
 rintro v Mp ⟨M, hP, r1_0_0, r1_0_1, r1_0_2, r1_0_3, r1_0_4, r1_1, rfl, H⟩
 refine JO_move (v := .tuple #[.agg #[.string r1_0_0, .bool r1_0_1, .bool r1_0_2, Sl.v r1_0_3, Sl.v r1_0_4], .bool r1_1]) rfl ?_
 refine JO_extract (vs := #[.agg #[.string r1_0_0, .bool r1_0_1, .bool r1_0_2, Sl.v r1_0_3, Sl.v r1_0_4], .bool r1_1]) (v := .agg #[.string r1_0_0, .bool r1_0_1, .bool r1_0_2, Sl.v r1_0_3, Sl.v r1_0_4]) rfl rfl ?_
 refine JO_extract (vs := #[.agg #[.string r1_0_0, .bool r1_0_1, .bool r1_0_2, Sl.v r1_0_3, Sl.v r1_0_4], .bool r1_1]) (v := .bool r1_1) rfl rfl ?_
 refine JO_alloc (cs := [.string (⟨#[]⟩ : ByteArray), .bool false, .bool false, Sl.v (⟨none, 0, 0⟩ : Sl), Sl.v (⟨none, 0, 0⟩ : Sl)]) zc_125 ?_
 intro b2 hb
 replace hP : Pv _ [(b2, .cells #[.string (⟨#[]⟩ : ByteArray), .bool false, .bool false, Sl.v (⟨none, 0, 0⟩ : Sl), Sl.v (⟨none, 0, 0⟩ : Sl)] 125 (0, 0))] _ := hP.box hb _
 refine JO_storeAgg (p := (b2, 0)) (cs := [.string r1_0_0, .bool r1_0_1, .bool r1_0_2, Sl.v r1_0_3, Sl.v r1_0_4]) sz_125 rfl rfl (all_cons rfl (all_cons rfl (all_cons rfl (all_cons rfl (all_cons rfl all_nil))))) (fun j hj => wrOf (hP.get 0 rfl) (by simp at hj ⊢; omega) (by simp)) ?_
 replace hP : Pv _ [(b2, .cells #[.string r1_0_0, .bool r1_0_1, .bool r1_0_2, Sl.v r1_0_3, Sl.v r1_0_4] 125 (0, 0))] _ := Pv.stosL (i := 0) [.string r1_0_0, .bool r1_0_1, .bool r1_0_2, Sl.v r1_0_3, Sl.v r1_0_4] [.string (⟨#[]⟩ : ByteArray), .bool false, .bool false, Sl.v (⟨none, 0, 0⟩ : Sl), Sl.v (⟨none, 0, 0⟩ : Sl)] 0 _ _ hP rfl
 refine JO_assign (v := .bool r1_1) rfl ?_
 refine JO_nil ?_
 refine J_seq ?_
 refine J_region (by decide) ?_
 refine JO_fieldAddr (p := (b2, 0)) fo_125_4 rfl ?_
 refine JO_load (p := (b2, 4)) (v := Sl.v r1_0_4) na_32 rfl (celOf (hP.get 0 rfl) rfl) ?_
 refine JO_move (v := .bool r1_1) rfl ?_
 refine JO_assign (v := Sl.v r1_0_4) rfl ?_
 refine JO_assign (v := .bool r1_1) rfl ?_
 refine JO_nil ?_
 exact J_ret (kret (pan := X)  hD (fun _ _ hb => hP.sub hb) (resOk (rs := [.tmp 4, .tmp 5]) (vs := [Sl.v r1_0_4, .bool r1_1]) rfl ⟨item_tmp rfl, item_tmp rfl, trivial⟩) ⟨r1_0_4, r1_1, rfl, H⟩)

/-! (*brazier/disk.Disk).Each -/
def S54 (t0 : Option PA) (K : Value → Mem → Prop) (X : List PanicEntry → Mem → Prop) : Mem → Prop :=
 new (.cells #[ptr t0] 26 (0, 0)) fun b1 => K (.func (.func 116) #[] #[ptr (some (b1, 0))])
theorem br54 {t0 : Option PA} {K : Value → Mem → Prop} {X : List PanicEntry → Mem → Prop} {M : Mem} (H : S54 t0 K X M) :
  Spec Tryz.prog 54 #[ptr t0] M (fun v_ M => ∃ (r0 : Value), v_ = r0 ∧ K r0 M) X := by
 refine spec_of_J (args := [ptr t0]) Tryz.func54 rfl Tryz.ntmps54 (Nat.le_of_ble_eq_true rfl) ?_
 have hD : (⟨fun i => ([ptr t0] : List Value).getD i undef, []⟩ : Env).D = [] := rfl
 have hP := Pv.nil M
 have hX := @kx_of Tryz.prog Tryz.f54 (fun v_ M => ∃ (r0 : Value), v_ = r0 ∧ K r0 M) X
 unfold S54 at H
 refine J_seq ?_
 refine J_region (by decide) ?_
 refine JO_box (v := ptr t0) rfl ?_
 intro b1 hb
 replace H := H b1 (hP.out hb).1
 replace hP := hP.new hb (.cells #[ptr t0] 26 (0, 0))
 refine JO_assign (v := .nilFunc) rfl ?_
 refine JO_nil ?_
 refine J_seq ?_
 refine J_region (by decide) ?_
 refine JO_fun (vs := []) (us := [ptr (some (b1, 0))]) mn (mc rfl mn) ?_
 refine JO_assign (v := .func (.func 116) #[] #[ptr (some (b1, 0))]) rfl ?_
 refine JO_nil ?_
 exact J_ret (kret (pan := X)  hD (fun _ _ hb => hP.sub hb) (resOk (rs := [.tmp 2]) (vs := [.func (.func 116) #[] #[ptr (some (b1, 0))]]) rfl ⟨item_tmp rfl, trivial⟩) ⟨.func (.func 116) #[] #[ptr (some (b1, 0))], rfl, H⟩)

/-! (*brazier/disk.Disk).SyncDir -/
def S58 (t0 : Option PA) (K : Int → Mem → Prop) (X : List PanicEntry → Mem → Prop) : Mem → Prop :=
 call 120 [ptr t0, .bool false, Sl.v (⟨none, 0, 0⟩ : Sl)] X fun v_ M => ∃ (r1 : Int), v_ = .int .i64 r1 ∧ ( ite' (r1 != 0) (K r1) (nn t0 fun a2 => ldP (a2.1, a2.2 + 1) fun t14_4 => call 122 [ptr t14_4] X fun v_ M => ∃ (r6 : Option PA), v_ = ptr r6 ∧ ( st (a2.1, a2.2 + 2) (ptr r6) <| st (a2.1, a2.2 + 3) (Sl.v (⟨none, 0, 0⟩ : Sl)) <| K 0) M)) M
theorem br58 {t0 : Option PA} {K : Int → Mem → Prop} {X : List PanicEntry → Mem → Prop} {M : Mem} (H : S58 t0 K X M) :
  Spec Tryz.prog 58 #[ptr t0] M (fun v_ M => ∃ (r0 : Int), v_ = .int .i64 r0 ∧ K r0 M) X := by
 refine spec_of_J (args := [ptr t0]) Tryz.func58 rfl Tryz.ntmps58 (Nat.le_of_ble_eq_true rfl) ?_
 have hD : (⟨fun i => ([ptr t0] : List Value).getD i undef, []⟩ : Env).D = [] := rfl
 have hP := Pv.nil M
 have hX := @kx_of Tryz.prog Tryz.f58 (fun v_ M => ∃ (r0 : Int), v_ = .int .i64 r0 ∧ K r0 M) X
 unfold S58 at H
 refine J_seq ?_
 refine J_region (by decide) ?_
 refine JO_assign (v := .int .i64 0) rfl ?_
 refine JO_nil ?_
 refine J_seq ?_
 refine J_seq ?_
 refine J_region (by decide) ?_
 refine JO_move (v := ptr t0) rfl ?_
 refine JO_call Tryz.call120 (vs := [ptr t0, .bool false, Sl.v (⟨none, 0, 0⟩ : Sl)]) (mc rfl (mc rfl (mc rfl mn))) ((hP.spec H).mono ?_ (fun ch Mp h => hX hD h))
 rintro v Mp ⟨M, hP, r1, rfl, H⟩
 refine JO_assign (v := .int .i64 r1) rfl ?_
 refine JO_nil ?_
 refine J_seq ?_
 refine J_region (by decide) ?_
 refine JO_move (v := .int .i64 r1) rfl ?_
 refine JO_iop (op := .neq) (k := .i64) (a := r1) (b := 0) rfl rfl trivial ?_
 refine JO_nil ?_
 refine J_cond (t := r1 != 0) rfl (fun hc_ => ?_) (fun hc_ => ?_)
 ·
  replace H := H.1 hc_
  clear hc_
  refine J_seq ?_
  refine J_region (by decide) ?_
  refine JO_move (v := .int .i64 r1) rfl ?_
  refine JO_assign (v := .int .i64 r1) rfl ?_
  refine JO_nil ?_
  exact J_ret (kret (pan := X)  hD (fun _ _ hb => hP.sub hb) (resOk (rs := [.tmp 2]) (vs := [.int .i64 r1]) rfl ⟨item_tmp rfl, trivial⟩) ⟨r1, rfl, H⟩)
 ·
  replace H := H.2 hc_
  clear hc_
  refine J_skip ?_
  refine J_seq ?_
  refine J_region (by decide) ?_
  refine JO_move (v := ptr t0) rfl ?_
  refine JO_move (v := ptr t0) rfl ?_
  refine JO_move (v := ptr t0) rfl ?_
  obtain ⟨a2, g3, H⟩ := H
  refine JO_nilCheck (p := a2) (tr1 (rfl : _ = ptr t0) (congrArg ptr g3)) ?_
  refine JO_fieldAddr (p := a2) fo_115_1 rfl ?_
  obtain ⟨t14_4, g5, H⟩ := H
  refine JO_load (p := (a2.1, a2.2 + 1)) (v := ptr t14_4) na_108 rfl (hP.cel g5) ?_
  refine JO_call Tryz.call122 (vs := [ptr t14_4]) (mc rfl mn) ((hP.spec H).mono ?_ (fun ch Mp h => hX hD h))
  rintro v Mp ⟨M, hP, r6, rfl, H⟩
  refine JO_nilCheck (p := a2) (tr1 (rfl : _ = ptr t0) (congrArg ptr g3)) ?_
  refine JO_fieldAddr (p := a2) fo_115_2 rfl ?_
  obtain ⟨g7, H⟩ := H
  refine JO_store (p := (a2.1, a2.2 + 2)) (v := ptr r6) sz_108 rfl rfl rfl (hP.wr g7) ?_
  replace hP := hP.sto g7 (ptr r6)
  refine JO_nilCheck (p := a2) (tr1 (rfl : _ = ptr t0) (congrArg ptr g3)) ?_
  refine JO_fieldAddr (p := a2) fo_115_3 rfl ?_
  obtain ⟨g8, H⟩ := H
  refine JO_store (p := (a2.1, a2.2 + 3)) (v := Sl.v (⟨none, 0, 0⟩ : Sl)) sz_113 rfl rfl rfl (hP.wr g8) ?_
  replace hP := hP.sto g8 (Sl.v (⟨none, 0, 0⟩ : Sl))
  refine JO_nil ?_
  refine J_seq ?_
  refine J_region (by decide) ?_
  refine JO_assign (v := .int .i64 0) rfl ?_
  refine JO_nil ?_
  exact J_ret (kret (pan := X)  hD (fun _ _ hb => hP.sub hb) (resOk (rs := [.tmp 2]) (vs := [.int .i64 0]) rfl ⟨item_tmp rfl, trivial⟩) ⟨0, rfl, H⟩)

/-! (*brazier/cas.Store).write -/
def S62 (t0 : Option PA) (t1 : ByteArray) (t2 : Sl) (K : Int → Mem → Prop) (X : List PanicEntry → Mem → Prop) : Mem → Prop :=
 must (t1.size + (⟨#[46, 116, 109, 112]⟩ : ByteArray).size ≤ 9223372036854775807) <| nn t0 fun a2 => ldP a2 fun t18_4 => call 126 [ptr t18_4, .string (t1 ++ (⟨#[46, 116, 109, 112]⟩ : ByteArray))] X fun v_ M => ∃ (r6 : Int), v_ = .int .i64 r6 ∧ ( ite' (r6 != 0) (K r6) (ldP a2 fun t27_7 => call 127 [ptr t27_7, .string (t1 ++ (⟨#[46, 116, 109, 112]⟩ : ByteArray)), Sl.v t2] X fun v_ M => ∃ (r9 : Int), v_ = .int .i64 r9 ∧ ( ite' (r9 == 0) (ldP a2 fun t49_10 => call 128 [ptr t49_10, .string (t1 ++ (⟨#[46, 116, 109, 112]⟩ : ByteArray))] X fun v_ M => ∃ (r12 : Int), v_ = .int .i64 r12 ∧ ( ite' (r12 != 0) (K r12) (ldP a2 fun t58_13 => call 129 [ptr t58_13, .string (t1 ++ (⟨#[46, 116, 109, 112]⟩ : ByteArray)), .string t1] X fun v_ M => ∃ (r15 : Int), v_ = .int .i64 r15 ∧ ( ite' (r15 != 0) (K r15) (ldP a2 fun t68_16 => call 58 [ptr t68_16] X fun v_ M => ∃ (r18 : Int), v_ = .int .i64 r18 ∧ ( K r18) M)) M)) M) (ite' (r9 == 4) (ldP a2 fun t40_19 => call 57 [ptr t40_19, .string (t1 ++ (⟨#[46, 116, 109, 112]⟩ : ByteArray))] X fun v_ M => ∃ (r21 : Int), v_ = .int .i64 r21 ∧ ( ite' (r21 != 0) (K r21) (K 4)) M) (K r9))) M)) M
theorem br62 {t0 : Option PA} {t1 : ByteArray} {t2 : Sl} {K : Int → Mem → Prop} {X : List PanicEntry → Mem → Prop} {M : Mem} (H : S62 t0 t1 t2 K X M) :
  Spec Tryz.prog 62 #[ptr t0, .string t1, Sl.v t2] M (fun v_ M => ∃ (r0 : Int), v_ = .int .i64 r0 ∧ K r0 M) X := by
 refine spec_of_J (args := [ptr t0, .string t1, Sl.v t2]) Tryz.func62 rfl Tryz.ntmps62 (Nat.le_of_ble_eq_true rfl) ?_
 have hD : (⟨fun i => ([ptr t0, .string t1, Sl.v t2] : List Value).getD i undef, []⟩ : Env).D = [] := rfl
 have hP := Pv.nil M
 have hX := @kx_of Tryz.prog Tryz.f62 (fun v_ M => ∃ (r0 : Int), v_ = .int .i64 r0 ∧ K r0 M) X
 unfold S62 at H
 refine J_seq ?_
 refine J_region (by decide) ?_
 refine JO_assign (v := .int .i64 0) rfl ?_
 refine JO_nil ?_
 refine J_seq ?_
 refine J_region (by decide) ?_
 refine JO_move (v := .string t1) rfl ?_
 obtain ⟨g1, H⟩ := H
 refine JO_sadd (a := t1) (b := (⟨#[46, 116, 109, 112]⟩ : ByteArray)) rfl rfl g1 ?_
 refine JO_assign (v := .string (t1 ++ (⟨#[46, 116, 109, 112]⟩ : ByteArray))) rfl ?_
 refine JO_nil ?_
 refine J_seq ?_
 refine J_seq ?_
 refine J_region (by decide) ?_
 refine JO_move (v := ptr t0) rfl ?_
 obtain ⟨a2, g3, H⟩ := H
 refine JO_nilCheck (p := a2) (tr1 (rfl : _ = ptr t0) (congrArg ptr g3)) ?_
 refine JO_fieldAddr (p := a2) fo_117_0 rfl ?_
 obtain ⟨t18_4, g5, H⟩ := H
 refine JO_load (p := a2) (v := ptr t18_4) na_26 rfl (hP.cel g5) ?_
 refine JO_move (v := .string (t1 ++ (⟨#[46, 116, 109, 112]⟩ : ByteArray))) rfl ?_
 refine JO_call Tryz.call126 (vs := [ptr t18_4, .string (t1 ++ (⟨#[46, 116, 109, 112]⟩ : ByteArray))]) (mc rfl (mc rfl mn)) ((hP.spec H).mono ?_ (fun ch Mp h => hX hD h))
 rintro v Mp ⟨M, hP, r6, rfl, H⟩
 refine JO_assign (v := .int .i64 r6) rfl ?_
 refine JO_nil ?_
 refine J_seq ?_
 refine J_region (by decide) ?_
 refine JO_move (v := .int .i64 r6) rfl ?_
 refine JO_iop (op := .neq) (k := .i64) (a := r6) (b := 0) rfl rfl trivial ?_
 refine JO_nil ?_
 refine J_cond (t := r6 != 0) rfl (fun hc_ => ?_) (fun hc_ => ?_)
 ·
  replace H := H.1 hc_
  clear hc_
  refine J_seq ?_
  refine J_region (by decide) ?_
  refine JO_move (v := .int .i64 r6) rfl ?_
  refine JO_assign (v := .int .i64 r6) rfl ?_
  refine JO_nil ?_
  exact J_ret (kret (pan := X)  hD (fun _ _ hb => hP.sub hb) (resOk (rs := [.tmp 6]) (vs := [.int .i64 r6]) rfl ⟨item_tmp rfl, trivial⟩) ⟨r6, rfl, H⟩)
 ·
  replace H := H.2 hc_
  clear hc_
  refine J_skip ?_
  refine J_seq ?_
  refine J_seq ?_
  refine J_region (by decide) ?_
  refine JO_move (v := ptr t0) rfl ?_
  refine JO_nilCheck (p := a2) (tr1 (rfl : _ = ptr t0) (congrArg ptr g3)) ?_
  refine JO_fieldAddr (p := a2) fo_117_0 rfl ?_
  obtain ⟨t27_7, g8, H⟩ := H
  refine JO_load (p := a2) (v := ptr t27_7) na_26 rfl (hP.cel g8) ?_
  refine JO_move (v := .string (t1 ++ (⟨#[46, 116, 109, 112]⟩ : ByteArray))) rfl ?_
  refine JO_move (v := Sl.v t2) rfl ?_
  refine JO_call Tryz.call127 (vs := [ptr t27_7, .string (t1 ++ (⟨#[46, 116, 109, 112]⟩ : ByteArray)), Sl.v t2]) (mc rfl (mc rfl (mc rfl mn))) ((hP.spec H).mono ?_ (fun ch Mp h => hX hD h))
  rintro v Mp ⟨M, hP, r9, rfl, H⟩
  refine JO_assign (v := .int .i64 r9) rfl ?_
  refine JO_nil ?_
  refine J_seq ?_
  refine J_region (by decide) ?_
  refine JO_move (v := .int .i64 r9) rfl ?_
  refine JO_nil ?_
  refine J_block ?_
  refine J_seq ?_
  refine J_region (by decide) ?_
  refine JO_iop (op := .eql) (k := .i64) (a := r9) (b := 0) rfl rfl trivial ?_
  refine JO_assign (v := .bool (r9 == 0)) rfl ?_
  refine JO_nil ?_
  refine J_cond (t := r9 == 0) rfl (fun hc_ => ?_) (fun hc_ => ?_)
  ·
   replace H := H.1 hc_
   clear hc_
   refine J_skip ?_
   refine J_seq ?_
   refine J_seq ?_
   refine J_region (by decide) ?_
   refine JO_move (v := ptr t0) rfl ?_
   refine JO_nilCheck (p := a2) (tr1 (rfl : _ = ptr t0) (congrArg ptr g3)) ?_
   refine JO_fieldAddr (p := a2) fo_117_0 rfl ?_
   obtain ⟨t49_10, g11, H⟩ := H
   refine JO_load (p := a2) (v := ptr t49_10) na_26 rfl (hP.cel g11) ?_
   refine JO_move (v := .string (t1 ++ (⟨#[46, 116, 109, 112]⟩ : ByteArray))) rfl ?_
   refine JO_call Tryz.call128 (vs := [ptr t49_10, .string (t1 ++ (⟨#[46, 116, 109, 112]⟩ : ByteArray))]) (mc rfl (mc rfl mn)) ((hP.spec H).mono ?_ (fun ch Mp h => hX hD h))
   rintro v Mp ⟨M, hP, r12, rfl, H⟩
   refine JO_assign (v := .int .i64 r12) rfl ?_
   refine JO_nil ?_
   refine J_seq ?_
   refine J_region (by decide) ?_
   refine JO_move (v := .int .i64 r12) rfl ?_
   refine JO_iop (op := .neq) (k := .i64) (a := r12) (b := 0) rfl rfl trivial ?_
   refine JO_nil ?_
   refine J_cond (t := r12 != 0) rfl (fun hc_ => ?_) (fun hc_ => ?_)
   ·
    replace H := H.1 hc_
    clear hc_
    refine J_seq ?_
    refine J_region (by decide) ?_
    refine JO_move (v := .int .i64 r12) rfl ?_
    refine JO_assign (v := .int .i64 r12) rfl ?_
    refine JO_nil ?_
    exact J_ret (kret (pan := X)  hD (fun _ _ hb => hP.sub hb) (resOk (rs := [.tmp 6]) (vs := [.int .i64 r12]) rfl ⟨item_tmp rfl, trivial⟩) ⟨r12, rfl, H⟩)
   ·
    replace H := H.2 hc_
    clear hc_
    refine J_skip ?_
    refine J_seq ?_
    refine J_seq ?_
    refine J_region (by decide) ?_
    refine JO_move (v := ptr t0) rfl ?_
    refine JO_nilCheck (p := a2) (tr1 (rfl : _ = ptr t0) (congrArg ptr g3)) ?_
    refine JO_fieldAddr (p := a2) fo_117_0 rfl ?_
    obtain ⟨t58_13, g14, H⟩ := H
    refine JO_load (p := a2) (v := ptr t58_13) na_26 rfl (hP.cel g14) ?_
    refine JO_move (v := .string (t1 ++ (⟨#[46, 116, 109, 112]⟩ : ByteArray))) rfl ?_
    refine JO_move (v := .string t1) rfl ?_
    refine JO_call Tryz.call129 (vs := [ptr t58_13, .string (t1 ++ (⟨#[46, 116, 109, 112]⟩ : ByteArray)), .string t1]) (mc rfl (mc rfl (mc rfl mn))) ((hP.spec H).mono ?_ (fun ch Mp h => hX hD h))
    rintro v Mp ⟨M, hP, r15, rfl, H⟩
    refine JO_assign (v := .int .i64 r15) rfl ?_
    refine JO_nil ?_
    refine J_seq ?_
    refine J_region (by decide) ?_
    refine JO_move (v := .int .i64 r15) rfl ?_
    refine JO_iop (op := .neq) (k := .i64) (a := r15) (b := 0) rfl rfl trivial ?_
    refine JO_nil ?_
    refine J_cond (t := r15 != 0) rfl (fun hc_ => ?_) (fun hc_ => ?_)
    ·
     replace H := H.1 hc_
     clear hc_
     refine J_seq ?_
     refine J_region (by decide) ?_
     refine JO_move (v := .int .i64 r15) rfl ?_
     refine JO_assign (v := .int .i64 r15) rfl ?_
     refine JO_nil ?_
     exact J_ret (kret (pan := X)  hD (fun _ _ hb => hP.sub hb) (resOk (rs := [.tmp 6]) (vs := [.int .i64 r15]) rfl ⟨item_tmp rfl, trivial⟩) ⟨r15, rfl, H⟩)
    ·
     replace H := H.2 hc_
     clear hc_
     refine J_skip ?_
     refine J_seq ?_
     refine J_region (by decide) ?_
     refine JO_move (v := ptr t0) rfl ?_
     refine JO_nilCheck (p := a2) (tr1 (rfl : _ = ptr t0) (congrArg ptr g3)) ?_
     refine JO_fieldAddr (p := a2) fo_117_0 rfl ?_
     obtain ⟨t68_16, g17, H⟩ := H
     refine JO_load (p := a2) (v := ptr t68_16) na_26 rfl (hP.cel g17) ?_
     refine JO_call Tryz.call58 (vs := [ptr t68_16]) (mc rfl mn) ((hP.spec H).mono ?_ (fun ch Mp h => hX hD h))
     rintro v Mp ⟨M, hP, r18, rfl, H⟩
     refine JO_assign (v := .int .i64 r18) rfl ?_
     refine JO_nil ?_
     exact J_ret (kret (pan := X)  hD (fun _ _ hb => hP.sub hb) (resOk (rs := [.tmp 6]) (vs := [.int .i64 r18]) rfl ⟨item_tmp rfl, trivial⟩) ⟨r18, rfl, H⟩)
  ·
   replace H := H.2 hc_
   clear hc_
   refine J_seq ?_
   refine J_region (by decide) ?_
   refine JO_iop (op := .eql) (k := .i64) (a := r9) (b := 4) rfl rfl trivial ?_
   refine JO_assign (v := .bool (r9 == 4)) rfl ?_
   refine JO_nil ?_
   refine J_cond (t := r9 == 4) rfl (fun hc_ => ?_) (fun hc_ => ?_)
   ·
    replace H := H.1 hc_
    clear hc_
    refine J_seq ?_
    refine J_seq ?_
    refine J_region (by decide) ?_
    refine JO_move (v := ptr t0) rfl ?_
    refine JO_nilCheck (p := a2) (tr1 (rfl : _ = ptr t0) (congrArg ptr g3)) ?_
    refine JO_fieldAddr (p := a2) fo_117_0 rfl ?_
    obtain ⟨t40_19, g20, H⟩ := H
    refine JO_load (p := a2) (v := ptr t40_19) na_26 rfl (hP.cel g20) ?_
    refine JO_move (v := .string (t1 ++ (⟨#[46, 116, 109, 112]⟩ : ByteArray))) rfl ?_
    refine JO_call Tryz.call57 (vs := [ptr t40_19, .string (t1 ++ (⟨#[46, 116, 109, 112]⟩ : ByteArray))]) (mc rfl (mc rfl mn)) ((hP.spec H).mono ?_ (fun ch Mp h => hX hD h))
    rintro v Mp ⟨M, hP, r21, rfl, H⟩
    refine JO_assign (v := .int .i64 r21) rfl ?_
    refine JO_nil ?_
    refine J_seq ?_
    refine J_region (by decide) ?_
    refine JO_move (v := .int .i64 r21) rfl ?_
    refine JO_iop (op := .neq) (k := .i64) (a := r21) (b := 0) rfl rfl trivial ?_
    refine JO_nil ?_
    refine J_cond (t := r21 != 0) rfl (fun hc_ => ?_) (fun hc_ => ?_)
    ·
     replace H := H.1 hc_
     clear hc_
     refine J_seq ?_
     refine J_region (by decide) ?_
     refine JO_move (v := .int .i64 r21) rfl ?_
     refine JO_assign (v := .int .i64 r21) rfl ?_
     refine JO_nil ?_
     exact J_ret (kret (pan := X)  hD (fun _ _ hb => hP.sub hb) (resOk (rs := [.tmp 6]) (vs := [.int .i64 r21]) rfl ⟨item_tmp rfl, trivial⟩) ⟨r21, rfl, H⟩)
    ·
     replace H := H.2 hc_
     clear hc_
     refine J_skip ?_
     refine J_seq ?_
     refine J_region (by decide) ?_
     refine JO_assign (v := .int .i64 4) rfl ?_
     refine JO_nil ?_
     exact J_ret (kret (pan := X)  hD (fun _ _ hb => hP.sub hb) (resOk (rs := [.tmp 6]) (vs := [.int .i64 4]) rfl ⟨item_tmp rfl, trivial⟩) ⟨4, rfl, H⟩)
   ·
    replace H := H.2 hc_
    clear hc_
    refine J_seq ?_
    refine J_region (by decide) ?_
    refine JO_move (v := .int .i64 r9) rfl ?_
    refine JO_assign (v := .int .i64 r9) rfl ?_
    refine JO_nil ?_
    exact J_ret (kret (pan := X)  hD (fun _ _ hb => hP.sub hb) (resOk (rs := [.tmp 6]) (vs := [.int .i64 r9]) rfl ⟨item_tmp rfl, trivial⟩) ⟨r9, rfl, H⟩)

/-! bytes.Compare -/
/-! (*brazier/sets.Row[string, int]).Each -/
def S117 (t0 : Option PA) (K : Value → Mem → Prop) (X : List PanicEntry → Mem → Prop) : Mem → Prop :=
 call 193 [ptr t0, .func (.func 194) #[] #[]] X fun v_ M => ∃ (r1 : Value), v_ = r1 ∧ ( K r1) M
theorem br117 {t0 : Option PA} {K : Value → Mem → Prop} {X : List PanicEntry → Mem → Prop} {M : Mem} (H : S117 t0 K X M) :
  Spec Tryz.prog 117 #[ptr t0] M (fun v_ M => ∃ (r0 : Value), v_ = r0 ∧ K r0 M) X := by
 refine spec_of_J (args := [ptr t0]) Tryz.func117 rfl Tryz.ntmps117 (Nat.le_of_ble_eq_true rfl) ?_
 have hD : (⟨fun i => ([ptr t0] : List Value).getD i undef, []⟩ : Env).D = [] := rfl
 have hP := Pv.nil M
 have hX := @kx_of Tryz.prog Tryz.f117 (fun v_ M => ∃ (r0 : Value), v_ = r0 ∧ K r0 M) X
 unfold S117 at H
 refine J_seq ?_
 refine J_region (by decide) ?_
 refine JO_assign (v := .nilFunc) rfl ?_
 refine JO_nil ?_
 refine J_seq ?_
 refine J_region (by decide) ?_
 refine JO_move (v := ptr t0) rfl ?_
 refine JO_call Tryz.call193 (vs := [ptr t0, .func (.func 194) #[] #[]]) (mc rfl (mc rfl mn)) ((hP.spec H).mono ?_ (fun ch Mp h => hX hD h))
 rintro r1 Mp ⟨M, hP, _, rfl, H⟩
 refine JO_assign (v := r1) rfl ?_
 refine JO_nil ?_
 exact J_ret (kret (pan := X)  hD (fun _ _ hb => hP.sub hb) (resOk (rs := [.tmp 2]) (vs := [r1]) rfl ⟨item_tmp rfl, trivial⟩) ⟨r1, rfl, H⟩)

/-! (*brazier/disk.Disk).turn -/
def S121 (t0 : Option PA) (t1_0 : ByteArray) (t1_1 : ByteArray) (t1_2 : Int) (K : Mem → Prop) (X : List PanicEntry → Mem → Prop) : Mem → Prop :=
 nn t0 fun a2 => ldP (a2.1, a2.2 + 1) fun t7_4 => call 198 [ptr t7_4, .agg #[.string t1_0, .string t1_1, .int .i64 t1_2]] (fun _ _ => False) fun v_ M => ( ldL (a2.1, a2.2 + 3) fun t14_7 => new (.cells #[.string t1_0, .string t1_1, .int .i64 t1_2] 221 (0, 0)) fun b9 => appS 221 3 40 [.string (⟨#[]⟩ : ByteArray), .string (⟨#[]⟩ : ByteArray), .int .i64 0] t14_7 (⟨some (b9, 0), 1, 1⟩ : Sl) fun x10 => st (a2.1, a2.2 + 3) (Sl.v x10) <| K) M
theorem br121 {t0 : Option PA} {t1_0 : ByteArray} {t1_1 : ByteArray} {t1_2 : Int} {K : Mem → Prop} {X : List PanicEntry → Mem → Prop} {M : Mem} (H : S121 t0 t1_0 t1_1 t1_2 K X M) :
  Spec Tryz.prog 121 #[ptr t0, .agg #[.string t1_0, .string t1_1, .int .i64 t1_2]] M (fun _ M => K M) X := by
 refine spec_of_J (args := [ptr t0, .agg #[.string t1_0, .string t1_1, .int .i64 t1_2]]) Tryz.func121 rfl Tryz.ntmps121 (Nat.le_of_ble_eq_true rfl) ?_
 have hD : (⟨fun i => ([ptr t0, .agg #[.string t1_0, .string t1_1, .int .i64 t1_2]] : List Value).getD i undef, []⟩ : Env).D = [] := rfl
 have hP := Pv.nil M
 have hX := @kx_of Tryz.prog Tryz.f121 (fun _ M => K M) X
 unfold S121 at H
 refine J_seq ?_
 refine J_region (by decide) ?_
 refine JO_box (v := .agg #[.string t1_0, .string t1_1, .int .i64 t1_2]) rfl ?_
 intro b1 hb
 replace hP : Pv _ [(b1, .cells #[.string t1_0, .string t1_1, .int .i64 t1_2] 221 (0, 0))] _ := hP.box hb _
 refine JO_nil ?_
 refine J_seq ?_
 refine J_draw [0, 0, 0, 1, 1, 3] (.cho 0 (.cho 1 (.cho 2 (.cho 3 (.cho 4 (.cho 5 .done .none) .none) .none) .none) .none) .none) rfl (by kernel_rfl) ?_
 refine JE_one ?_
 refine ST0 (fun _ h => by cases h) (fun w => OV_move (v := ptr t0) rfl w) ?_
 refine JE_one ?_
 obtain ⟨a2, g3, H⟩ := H
 refine ST0 (fun _ h => by cases h) (fun w => OV_nilCheck (p := a2) (by exact tr1 (rfl : _ = ptr t0) (congrArg ptr g3)) w) ?_
 refine JE_one ?_
 refine ST0 (fun _ h => by cases h) (fun w => OV_fieldAddr (p := a2) fo_115_1 rfl w) ?_
 refine JE_one ?_
 obtain ⟨t7_4, g5, H⟩ := H
 refine ST1 (fun _ h => by cases h) (fun w hs => OV_load (p := (a2.1, a2.2 + 1)) (v := ptr t7_4) na_108 rfl (hP.cel g5) w hs) ?_
 refine JE_one ?_
 refine ST1 (fun _ h => by cases h) (fun w hs => OV_loadAgg (p := (b1, 0)) (cs := [.string t1_0, .string t1_1, .int .i64 t1_2]) ag_221 (Nat.succ_pos _) rfl (cels_of (b := b1) (o := 0) ⟨celOf (hP.get 0 rfl) rfl, celOf (hP.get 0 rfl) rfl, celOf (hP.get 0 rfl) rfl, trivial⟩) w hs) ?_
 refine JE_one ?_
 refine ST3 ?_
 refine JO_call Tryz.call198 (vs := [ptr t7_4, .agg #[.string t1_0, .string t1_1, .int .i64 t1_2]]) (mc rfl (mc rfl mn)) ((hP.spec H).mono ?_ (fun _ _ ⟨_, _, f⟩ => f.elim))
 rintro rv_ Mp ⟨M, hP, H⟩
 refine Kd_nil ?_
 refine JE_done ?_
 refine J_draw [0, 0, 0, 0, 1, 1, 2, 3, 0, 0, 3] (.cho 0 (.cho 1 (.cho 2 (.cho 3 (.cho 4 (.cho 5 (.cho 6 (.cho 7 (.cho 8 (.cho 9 (.cho 10 .done .none) .none) .none) .none) .none) .none) .none) .none) .none) .none) .none) rfl (by kernel_rfl) ?_
 refine JE_one ?_
 refine ST0 (fun _ h => by cases h) (fun w => OV_move (v := ptr t0) rfl w) ?_
 refine JE_one ?_
 refine ST0 (fun _ h => by cases h) (fun w => OV_move (v := ptr t0) rfl w) ?_
 refine JE_one ?_
 refine ST0 (fun _ h => by cases h) (fun w => OV_nilCheck (p := a2) (by exact tr1 (rfl : _ = ptr t0) (congrArg ptr g3)) w) ?_
 refine JE_one ?_
 refine ST0 (fun _ h => by cases h) (fun w => OV_fieldAddr (p := a2) fo_115_3 rfl w) ?_
 refine JE_one ?_
 obtain ⟨t14_7, g8, H⟩ := H
 refine ST1 (fun _ h => by cases h) (fun w hs => OV_load (p := (a2.1, a2.2 + 3)) (v := Sl.v t14_7) na_113 rfl (hP.cel g8) w hs) ?_
 refine JE_one ?_
 refine ST1 (fun _ h => by cases h) (fun w hs => OV_loadAgg (p := (b1, 0)) (cs := [.string t1_0, .string t1_1, .int .i64 t1_2]) ag_221 (Nat.succ_pos _) rfl (cels_of (b := b1) (o := 0) ⟨celOf (hP.get 0 rfl) rfl, celOf (hP.get 0 rfl) rfl, celOf (hP.get 0 rfl) rfl, trivial⟩) w hs) ?_
 refine JE_one ?_
 refine ST2 (val := fun b => Sl.v ⟨some (b, 0), 1, 1⟩) (fun _ h => by cases h) (fun w => OA_bsl (vs := [(0, .agg #[.string t1_0, .string t1_1, .int .i64 t1_2])]) (cs := [.string t1_0, .string t1_1, .int .i64 t1_2]) (c0 := [.string (⟨#[]⟩ : ByteArray), .string (⟨#[]⟩ : ByteArray), .int .i64 0]) ul_113 sz_221 zc_221 (by kernel_rfl) (by decide) (by decide) (mpc rfl mpn) rfl w) ?_
 intro b9 hb
 replace H := H b9 (hP.out hb).1
 replace hP := hP.new hb (.cells #[.string t1_0, .string t1_1, .int .i64 t1_2] 221 (0, 0))
 refine JE_one ?_
 refine ST3 ?_
 refine JO_loud ((hP.opJ (OpJ_app (s := t14_7) (z := (⟨some (b9, 0), 1, 1⟩ : Sl)) ul_113 sb_221 zc_221 rfl rfl H)).mono (fun _ _ h => h) (fun _ _ ⟨_, _, f⟩ => f.elim)) ?_
 rintro _ Mp ⟨M, hP, x10, rfl, H⟩
 refine Kd_nil ?_
 refine JE_one ?_
 refine ST0 (fun _ h => by cases h) (fun w => OV_nilCheck (p := a2) (by exact tr1 (rfl : _ = ptr t0) (congrArg ptr g3)) w) ?_
 refine JE_one ?_
 refine ST0 (fun _ h => by cases h) (fun w => OV_fieldAddr (p := a2) fo_115_3 rfl w) ?_
 refine JE_one ?_
 refine ST3 ?_
 obtain ⟨g11, H⟩ := H
 refine JO_store (p := (a2.1, a2.2 + 3)) (v := Sl.v x10) sz_113 rfl rfl rfl (hP.wr g11) ?_
 replace hP := hP.sto g11 (Sl.v x10)
 refine Kd_nil ?_
 refine JE_done ?_
 exact (kend (pan := X)  hD (fun _ _ hb => hP.sub hb) (resOk (rs := []) (vs := []) rfl trivial) H)

/-! (*brazier/cas.Store).all -/
def S125 (t0 : Option PA) (t1 : Sl) (K : Value → Mem → Prop) (X : List PanicEntry → Mem → Prop) : Mem → Prop :=
 new (.cells #[ptr t0] 28 (0, 0)) fun b1 => new (.cells #[Sl.v t1] 32 (0, 0)) fun b2 => K (.func (.func 203) #[] #[ptr (some (b2, 0)), ptr (some (b1, 0))])
theorem br125 {t0 : Option PA} {t1 : Sl} {K : Value → Mem → Prop} {X : List PanicEntry → Mem → Prop} {M : Mem} (H : S125 t0 t1 K X M) :
  Spec Tryz.prog 125 #[ptr t0, Sl.v t1] M (fun v_ M => ∃ (r0 : Value), v_ = r0 ∧ K r0 M) X := by
 refine spec_of_J (args := [ptr t0, Sl.v t1]) Tryz.func125 rfl Tryz.ntmps125 (Nat.le_of_ble_eq_true rfl) ?_
 have hD : (⟨fun i => ([ptr t0, Sl.v t1] : List Value).getD i undef, []⟩ : Env).D = [] := rfl
 have hP := Pv.nil M
 have hX := @kx_of Tryz.prog Tryz.f125 (fun v_ M => ∃ (r0 : Value), v_ = r0 ∧ K r0 M) X
 unfold S125 at H
 refine J_seq ?_
 refine J_region (by decide) ?_
 refine JO_box (v := ptr t0) rfl ?_
 intro b1 hb
 replace H := H b1 (hP.out hb).1
 replace hP := hP.new hb (.cells #[ptr t0] 28 (0, 0))
 refine JO_box (v := Sl.v t1) rfl ?_
 intro b2 hb
 replace H := H b2 (hP.out hb).1
 replace hP := hP.new hb (.cells #[Sl.v t1] 32 (0, 0))
 refine JO_assign (v := .nilFunc) rfl ?_
 refine JO_nil ?_
 refine J_seq ?_
 refine J_region (by decide) ?_
 refine JO_fun (vs := []) (us := [ptr (some (b2, 0)), ptr (some (b1, 0))]) mn (mc rfl (mc rfl mn)) ?_
 refine JO_assign (v := .func (.func 203) #[] #[ptr (some (b2, 0)), ptr (some (b1, 0))]) rfl ?_
 refine JO_nil ?_
 exact J_ret (kret (pan := X)  hD (fun _ _ hb => hP.sub hb) (resOk (rs := [.tmp 4]) (vs := [.func (.func 203) #[] #[ptr (some (b2, 0)), ptr (some (b1, 0))]]) rfl ⟨item_tmp rfl, trivial⟩) ⟨.func (.func 203) #[] #[ptr (some (b2, 0)), ptr (some (b1, 0))], rfl, H⟩)

/-! (*brazier/disk.Disk).Rename -/
def S129 (t0 : Option PA) (t1 : ByteArray) (t2 : ByteArray) (K : Int → Mem → Prop) (X : List PanicEntry → Mem → Prop) : Mem → Prop :=
 new (.cells #[.string t1, .string t2] 9 (0, 0)) fun b1 => call 120 [ptr t0, .bool true, Sl.v (⟨some (b1, 0), 2, 2⟩ : Sl)] X fun v_ M => ∃ (r2 : Int), v_ = .int .i64 r2 ∧ ( ite' (r2 != 0) (K r2) (nn t0 fun a3 => ldP (a3.1, a3.2 + 1) fun t22_5 => call 130 [ptr t22_5, .string t1] X fun v_ M => ∃ (r7_0 : Int) (r7_1 : Bool), v_ = .tuple #[.int .i64 r7_0, .bool r7_1] ∧ ( call 121 [ptr t0, .agg #[.string t1, .string t2, .int .i64 r7_0]] X fun v_ M => ( K 0) M) M)) M
theorem br129 {t0 : Option PA} {t1 : ByteArray} {t2 : ByteArray} {K : Int → Mem → Prop} {X : List PanicEntry → Mem → Prop} {M : Mem} (H : S129 t0 t1 t2 K X M) :
  Spec Tryz.prog 129 #[ptr t0, .string t1, .string t2] M (fun v_ M => ∃ (r0 : Int), v_ = .int .i64 r0 ∧ K r0 M) X := by
 refine spec_of_J (args := [ptr t0, .string t1, .string t2]) Tryz.func129 rfl Tryz.ntmps129 (Nat.le_of_ble_eq_true rfl) ?_
 have hD : (⟨fun i => ([ptr t0, .string t1, .string t2] : List Value).getD i undef, []⟩ : Env).D = [] := rfl
 have hP := Pv.nil M
 have hX := @kx_of Tryz.prog Tryz.f129 (fun v_ M => ∃ (r0 : Int), v_ = .int .i64 r0 ∧ K r0 M) X
 unfold S129 at H
 refine J_seq ?_
 refine J_region (by decide) ?_
 refine JO_assign (v := .int .i64 0) rfl ?_
 refine JO_nil ?_
 refine J_seq ?_
 refine J_seq ?_
 refine J_region (by decide) ?_
 refine JO_move (v := ptr t0) rfl ?_
 refine JO_move (v := .string t1) rfl ?_
 refine JO_move (v := .string t2) rfl ?_
 refine JO_bsl (vs := [(0, .string t1), (1, .string t2)]) (cs := [.string t1, .string t2]) (c0 := [.string (⟨#[]⟩ : ByteArray), .string (⟨#[]⟩ : ByteArray)]) ul_36 sz_9 zc_9 (by kernel_rfl) (by decide) (by decide) (mpc rfl (mpc rfl mpn)) rfl ?_
 intro b1 hb
 replace H := H b1 (hP.out hb).1
 replace hP := hP.new hb (.cells #[.string t1, .string t2] 9 (0, 0))
 refine JO_call Tryz.call120 (vs := [ptr t0, .bool true, Sl.v (⟨some (b1, 0), 2, 2⟩ : Sl)]) (mc rfl (mc rfl (mc rfl mn))) ((hP.spec H).mono ?_ (fun ch Mp h => hX hD h))
 rintro v Mp ⟨M, hP, r2, rfl, H⟩
 refine JO_assign (v := .int .i64 r2) rfl ?_
 refine JO_nil ?_
 refine J_seq ?_
 refine J_region (by decide) ?_
 refine JO_move (v := .int .i64 r2) rfl ?_
 refine JO_iop (op := .neq) (k := .i64) (a := r2) (b := 0) rfl rfl trivial ?_
 refine JO_nil ?_
 refine J_cond (t := r2 != 0) rfl (fun hc_ => ?_) (fun hc_ => ?_)
 ·
  replace H := H.1 hc_
  clear hc_
  refine J_seq ?_
  refine J_region (by decide) ?_
  refine JO_move (v := .int .i64 r2) rfl ?_
  refine JO_assign (v := .int .i64 r2) rfl ?_
  refine JO_nil ?_
  exact J_ret (kret (pan := X)  hD (fun _ _ hb => hP.sub hb) (resOk (rs := [.tmp 6]) (vs := [.int .i64 r2]) rfl ⟨item_tmp rfl, trivial⟩) ⟨r2, rfl, H⟩)
 ·
  replace H := H.2 hc_
  clear hc_
  refine J_skip ?_
  refine J_seq ?_
  refine J_region (by decide) ?_
  refine JO_move (v := ptr t0) rfl ?_
  obtain ⟨a3, g4, H⟩ := H
  refine JO_nilCheck (p := a3) (tr1 (rfl : _ = ptr t0) (congrArg ptr g4)) ?_
  refine JO_fieldAddr (p := a3) fo_115_1 rfl ?_
  obtain ⟨t22_5, g6, H⟩ := H
  refine JO_load (p := (a3.1, a3.2 + 1)) (v := ptr t22_5) na_108 rfl (hP.cel g6) ?_
  refine JO_move (v := .string t1) rfl ?_
  refine JO_call Tryz.call130 (vs := [ptr t22_5, .string t1]) (mc rfl (mc rfl mn)) ((hP.spec H).mono ?_ (fun ch Mp h => hX hD h))
  rintro v Mp ⟨M, hP, r7_0, r7_1, rfl, H⟩
  refine JO_move (v := .tuple #[.int .i64 r7_0, .bool r7_1]) rfl ?_
  refine JO_extract (vs := #[.int .i64 r7_0, .bool r7_1]) (v := .int .i64 r7_0) rfl rfl ?_
  refine JO_extract (vs := #[.int .i64 r7_0, .bool r7_1]) (v := .bool r7_1) rfl rfl ?_
  refine JO_assign (v := .int .i64 r7_0) rfl ?_
  refine JO_assign (v := .bool r7_1) rfl ?_
  refine JO_nil ?_
  refine J_seq ?_
  refine J_region (by decide) ?_
  refine JO_move (v := ptr t0) rfl ?_
  refine JO_move (v := .string t1) rfl ?_
  refine JO_move (v := .string t2) rfl ?_
  refine JO_move (v := .int .i64 r7_0) rfl ?_
  refine JO_bld (vs := [(0, .string t1), (1, .string t2), (2, .int .i64 r7_0)]) (cs := [.string t1, .string t2, .int .i64 r7_0]) pl_221 zc_221 (mpc rfl (mpc rfl (mpc rfl mpn))) rfl ?_
  refine JO_call Tryz.call121 (vs := [ptr t0, .agg #[.string t1, .string t2, .int .i64 r7_0]]) (mc rfl (mc rfl mn)) ((hP.spec H).mono ?_ (fun ch Mp h => hX hD h))
  rintro rv_ Mp ⟨M, hP, H⟩
  refine JO_nil ?_
  refine J_seq ?_
  refine J_region (by decide) ?_
  refine JO_assign (v := .int .i64 0) rfl ?_
  refine JO_nil ?_
  exact J_ret (kret (pan := X)  hD (fun _ _ hb => hP.sub hb) (resOk (rs := [.tmp 6]) (vs := [.int .i64 0]) rfl ⟨item_tmp rfl, trivial⟩) ⟨0, rfl, H⟩)

/-! (*brazier/sets.Row[string, int]).loop -/
def S193 (t0 : Option PA) (t1 : Value) (K : Value → Mem → Prop) (X : List PanicEntry → Mem → Prop) : Mem → Prop :=
 new (.cells #[ptr t0] 108 (0, 0)) fun b1 => one t1 <| new (.cells #[t1] 44 (0, 0)) fun b3 => K (.func (.func 275) #[] #[ptr (some (b1, 0)), ptr (some (b3, 0))])
theorem br193 {t0 : Option PA} {t1 : Value} {K : Value → Mem → Prop} {X : List PanicEntry → Mem → Prop} {M : Mem} (H : S193 t0 t1 K X M) :
  Spec Tryz.prog 193 #[ptr t0, t1] M (fun v_ M => ∃ (r0 : Value), v_ = r0 ∧ K r0 M) X := by
 refine spec_of_J (args := [ptr t0, t1]) Tryz.func193 rfl Tryz.ntmps193 (Nat.le_of_ble_eq_true rfl) ?_
 have hD : (⟨fun i => ([ptr t0, t1] : List Value).getD i undef, []⟩ : Env).D = [] := rfl
 have hP := Pv.nil M
 have hX := @kx_of Tryz.prog Tryz.f193 (fun v_ M => ∃ (r0 : Value), v_ = r0 ∧ K r0 M) X
 unfold S193 at H
 refine J_seq ?_
 refine J_region (by decide) ?_
 refine JO_box (v := ptr t0) rfl ?_
 intro b1 hb
 replace H := H b1 (hP.out hb).1
 replace hP := hP.new hb (.cells #[ptr t0] 108 (0, 0))
 obtain ⟨g2, H⟩ := H
 refine JO_box (v := t1) rfl ?_
 intro b3 hb
 rw [cells_one g2]
 replace H := H b3 (hP.out hb).1
 replace hP := hP.new hb (.cells #[t1] 44 (0, 0))
 refine JO_assign (v := .nilFunc) rfl ?_
 refine JO_nil ?_
 refine J_seq ?_
 refine J_region (by decide) ?_
 refine JO_fun (vs := []) (us := [ptr (some (b1, 0)), ptr (some (b3, 0))]) mn (mc rfl (mc rfl mn)) ?_
 refine JO_assign (v := .func (.func 275) #[] #[ptr (some (b1, 0)), ptr (some (b3, 0))]) rfl ?_
 refine JO_nil ?_
 exact J_ret (kret (pan := X)  hD (fun _ _ hb => hP.sub hb) (resOk (rs := [.tmp 4]) (vs := [.func (.func 275) #[] #[ptr (some (b1, 0)), ptr (some (b3, 0))]]) rfl ⟨item_tmp rfl, trivial⟩) ⟨.func (.func 275) #[] #[ptr (some (b1, 0)), ptr (some (b3, 0))], rfl, H⟩)

/-! brazier/disk.MayName -/
def S197_8 (t7_ : Int) (t38_ : Bool) (t0_ : ByteArray) (t6_ : Int) (K : Bool → Mem → Prop) (X : List PanicEntry → Mem → Prop) (next2 : Int → Mem → Prop) : Mem → Prop :=
 ite' t38_ (K false) (next2 (IntKind.wrap .i64 (t7_ + 1)))
def S197_7 (t4_ : Int) (t7_ : Int) (t34_ : Bool) (t0_ : ByteArray) (t6_ : Int) (K : Bool → Mem → Prop) (X : List PanicEntry → Mem → Prop) (next2 : Int → Mem → Prop) : Mem → Prop :=
 ite' t34_ (S197_8 t7_ (t4_ != 95) t0_ t6_ K X next2) (S197_8 t7_ false t0_ t6_ K X next2)
def S197_6 (t4_ : Int) (t7_ : Int) (t30_ : Bool) (t0_ : ByteArray) (t6_ : Int) (K : Bool → Mem → Prop) (X : List PanicEntry → Mem → Prop) (next2 : Int → Mem → Prop) : Mem → Prop :=
 ite' t30_ (S197_7 t4_ t7_ (t4_ != 45) t0_ t6_ K X next2) (S197_7 t4_ t7_ false t0_ t6_ K X next2)
def S197_4 (t4_ : Int) (t7_ : Int) (t26_ : Bool) (t0_ : ByteArray) (t6_ : Int) (K : Bool → Mem → Prop) (X : List PanicEntry → Mem → Prop) (next2 : Int → Mem → Prop) : Mem → Prop :=
 ite' t26_ (S197_6 t4_ t7_ (t4_ != 46) t0_ t6_ K X next2) (S197_6 t4_ t7_ false t0_ t6_ K X next2)
def S197_5 (t4_ : Int) (t7_ : Int) (t25_ : Bool) (t0_ : ByteArray) (t6_ : Int) (K : Bool → Mem → Prop) (X : List PanicEntry → Mem → Prop) (next2 : Int → Mem → Prop) : Mem → Prop :=
 S197_4 t4_ t7_ t25_ t0_ t6_ K X next2
def S197_3 (t4_ : Int) (t7_ : Int) (t18_ : Bool) (t0_ : ByteArray) (t6_ : Int) (K : Bool → Mem → Prop) (X : List PanicEntry → Mem → Prop) (next2 : Int → Mem → Prop) : Mem → Prop :=
 ite' t18_ (ite' (decide (t4_ < 48)) (S197_5 t4_ t7_ true t0_ t6_ K X next2) (S197_5 t4_ t7_ (decide (t4_ > 57)) t0_ t6_ K X next2)) (S197_4 t4_ t7_ false t0_ t6_ K X next2)
def S197_9 (t47_ : Bool) (K : Bool → Mem → Prop) (X : List PanicEntry → Mem → Prop) : Mem → Prop :=
 K t47_
def S197_1 (t0_ : ByteArray) (K : Bool → Mem → Prop) (X : List PanicEntry → Mem → Prop) : Mem → Prop :=
 ite' (decide ((t0_.size : Int) ≥ 1)) (S197_9 (decide ((t0_.size : Int) ≤ 80)) K X) (S197_9 false K X)
def S197_2b (t0_ : ByteArray) (t6_ : Int) (K : Bool → Mem → Prop) (X : List PanicEntry → Mem → Prop) (t7_ : Int) (next2 : Int → Mem → Prop) : Mem → Prop :=
 ite' (decide (t7_ < t6_)) (sx t0_ t7_ fun c4 => ite' (decide (c4 < 97)) (S197_3 c4 t7_ true t0_ t6_ K X next2) (S197_3 c4 t7_ (decide (c4 > 122)) t0_ t6_ K X next2)) (S197_1 t0_ K X)
def S197_2 (t0_ : ByteArray) (t6_ : Int) (t7_ : Int) (K : Bool → Mem → Prop) (X : List PanicEntry → Mem → Prop) : Mem → Prop :=
 Lp (fun (s_ : Int) next2 => S197_2b t0_ t6_ K X s_ next2) t7_
def S197 (t0 : ByteArray) (K : Bool → Mem → Prop) (X : List PanicEntry → Mem → Prop) : Mem → Prop :=
 S197_2 t0 (t0.size : Int) 0 K X
abbrev F197_5 (t0_ : ByteArray) (t6_ : Int) (K : Bool → Mem → Prop) (X : List PanicEntry → Mem → Prop) (next2 : Int → Mem → Prop) (e : Env) (Mp : Mem) : Prop := ∃ (t4_ : Int) (t7_ : Int) (t25_ : Bool) (M : Mem), e.D = [] ∧ e.v 0 = .string t0_ ∧ e.v 4 = .int .u8 t4_ ∧ e.v 6 = .int .i64 t6_ ∧ e.v 7 = .int .i64 t7_ ∧ e.v 19 = .bool true ∧ e.v 25 = .bool t25_ ∧ Pv M [] Mp ∧ S197_5 t4_ t7_ t25_ t0_ t6_ K X next2 M
abbrev F197_8 (t0_ : ByteArray) (t6_ : Int) (K : Bool → Mem → Prop) (X : List PanicEntry → Mem → Prop) (next2 : Int → Mem → Prop) (e : Env) (Mp : Mem) : Prop := ∃ (t7_ : Int) (t38_ : Bool) (M : Mem), e.D = [] ∧ e.v 0 = .string t0_ ∧ e.v 6 = .int .i64 t6_ ∧ e.v 7 = .int .i64 t7_ ∧ e.v 38 = .bool t38_ ∧ Pv M [] Mp ∧ S197_8 t7_ t38_ t0_ t6_ K X next2 M
abbrev F197_7 (t0_ : ByteArray) (t6_ : Int) (K : Bool → Mem → Prop) (X : List PanicEntry → Mem → Prop) (next2 : Int → Mem → Prop) (e : Env) (Mp : Mem) : Prop := ∃ (t4_ : Int) (t7_ : Int) (t34_ : Bool) (M : Mem), e.D = [] ∧ e.v 0 = .string t0_ ∧ e.v 4 = .int .u8 t4_ ∧ e.v 6 = .int .i64 t6_ ∧ e.v 7 = .int .i64 t7_ ∧ e.v 34 = .bool t34_ ∧ Pv M [] Mp ∧ S197_7 t4_ t7_ t34_ t0_ t6_ K X next2 M
abbrev F197_6 (t0_ : ByteArray) (t6_ : Int) (K : Bool → Mem → Prop) (X : List PanicEntry → Mem → Prop) (next2 : Int → Mem → Prop) (e : Env) (Mp : Mem) : Prop := ∃ (t4_ : Int) (t7_ : Int) (t30_ : Bool) (M : Mem), e.D = [] ∧ e.v 0 = .string t0_ ∧ e.v 4 = .int .u8 t4_ ∧ e.v 6 = .int .i64 t6_ ∧ e.v 7 = .int .i64 t7_ ∧ e.v 30 = .bool t30_ ∧ Pv M [] Mp ∧ S197_6 t4_ t7_ t30_ t0_ t6_ K X next2 M
abbrev F197_4 (t0_ : ByteArray) (t6_ : Int) (K : Bool → Mem → Prop) (X : List PanicEntry → Mem → Prop) (next2 : Int → Mem → Prop) (e : Env) (Mp : Mem) : Prop := ∃ (t4_ : Int) (t7_ : Int) (t26_ : Bool) (M : Mem), e.D = [] ∧ e.v 0 = .string t0_ ∧ e.v 4 = .int .u8 t4_ ∧ e.v 6 = .int .i64 t6_ ∧ e.v 7 = .int .i64 t7_ ∧ e.v 26 = .bool t26_ ∧ Pv M [] Mp ∧ S197_4 t4_ t7_ t26_ t0_ t6_ K X next2 M
abbrev F197_3 (t0_ : ByteArray) (t6_ : Int) (K : Bool → Mem → Prop) (X : List PanicEntry → Mem → Prop) (next2 : Int → Mem → Prop) (e : Env) (Mp : Mem) : Prop := ∃ (t4_ : Int) (t7_ : Int) (t18_ : Bool) (M : Mem), e.D = [] ∧ e.v 0 = .string t0_ ∧ e.v 4 = .int .u8 t4_ ∧ e.v 6 = .int .i64 t6_ ∧ e.v 7 = .int .i64 t7_ ∧ e.v 18 = .bool t18_ ∧ Pv M [] Mp ∧ S197_3 t4_ t7_ t18_ t0_ t6_ K X next2 M
abbrev F197_2 (K : Bool → Mem → Prop) (X : List PanicEntry → Mem → Prop) (e : Env) (Mp : Mem) : Prop := ∃ (t0_ : ByteArray) (t6_ : Int) (t7_ : Int) (M : Mem), e.D = [] ∧ e.v 0 = .string t0_ ∧ e.v 6 = .int .i64 t6_ ∧ e.v 7 = .int .i64 t7_ ∧ Pv M [] Mp ∧ S197_2 t0_ t6_ t7_ K X M
abbrev F197_9 (K : Bool → Mem → Prop) (X : List PanicEntry → Mem → Prop) (e : Env) (Mp : Mem) : Prop := ∃ (t47_ : Bool) (M : Mem), e.D = [] ∧ e.v 47 = .bool t47_ ∧ Pv M [] Mp ∧ S197_9 t47_ K X M
abbrev F197_1 (K : Bool → Mem → Prop) (X : List PanicEntry → Mem → Prop) (e : Env) (Mp : Mem) : Prop := ∃ (t0_ : ByteArray) (M : Mem), e.D = [] ∧ e.v 0 = .string t0_ ∧ Pv M [] Mp ∧ S197_1 t0_ K X M
theorem br197 {t0 : ByteArray} {K : Bool → Mem → Prop} {X : List PanicEntry → Mem → Prop} {M : Mem} (H : S197 t0 K X M) :
  Spec Tryz.prog 197 #[.string t0] M (fun v_ M => ∃ (r0 : Bool), v_ = .bool r0 ∧ K r0 M) X := by
 refine spec_of_J (args := [.string t0]) Tryz.func197 rfl Tryz.ntmps197 (Nat.le_of_ble_eq_true rfl) ?_
 have hD : (⟨fun i => ([.string t0] : List Value).getD i undef, []⟩ : Env).D = [] := rfl
 have hP := Pv.nil M
 have hX := @kx_of Tryz.prog Tryz.f197 (fun v_ M => ∃ (r0 : Bool), v_ = .bool r0 ∧ K r0 M) X
 unfold S197 at H
 refine J_seq ?_
 refine J_region (by decide) ?_
 refine JO_assign (v := .bool false) rfl ?_
 refine JO_nil ?_
 refine J_seq ?_
 refine J_seq ?_
 refine J_region (by decide) ?_
 refine JO_move (v := .string t0) rfl ?_
 refine JO_slen (a := t0) ul_9 rfl ?_
 refine JO_move (v := .int .i64 0) rfl ?_
 refine JO_nil ?_
 refine J_blockF (F197_1 K X) ?_ ?_
 ·
  refine J_of (F197_2 K X) (show F197_2 K X _ _ from ⟨t0, (t0.size : Int), 0, _, hD, rfl, rfl, rfl, hP, H⟩) ?_
  rintro e Mp ⟨t0_, t6_, t7_, M, hD, h0, h6, h7, hP, H⟩
  unfold S197_2 at H
  refine J_loopP (σ := Int) (body := fun (s_ : Int) next2 => S197_2b t0_ t6_ K X s_ next2) (s := t7_) (M := M) (fun (s_ : Int) (e : Env) (M Mp : Mem) => e.D = [] ∧ e.v 0 = .string t0_ ∧ e.v 6 = .int .i64 t6_ ∧ e.v 7 = .int .i64 s_ ∧ Pv M [] Mp) ?_ ⟨hD, h0, h6, h7, hP⟩ H
  rintro next2 t7_ e M Mp ⟨hD, h0, h6, h7, hP⟩ H
  replace H : S197_2b t0_ t6_ K X t7_ next2 M := H
  unfold S197_2b at H
  refine J_seq ?_
  refine J_region (by decide) ?_
  refine JO_iop (op := .lss) (k := .i64) (a := t7_) (b := t6_) h7 h6 trivial ?_
  refine JO_nil ?_
  refine J_seq ?_
  refine J_cond (t := decide (t7_ < t6_)) rfl (fun hc_ => ?_) (fun hc_ => ?_)
  ·
   replace H := H.1 hc_
   clear hc_
   refine J_skip ?_
   refine J_seq ?_
   refine J_block ?_
   refine J_seq ?_
   refine J_region (by decide) ?_
   refine JO_move (v := .int .i64 t7_) h7 ?_
   refine JO_assign (v := .int .i64 t7_) rfl ?_
   refine JO_nil ?_
   refine J_seq ?_
   refine J_region (by decide) ?_
   refine JO_move (v := .string t0_) h0 ?_
   refine JO_move (v := .int .i64 t7_) rfl ?_
   obtain ⟨c1, g2, g3, H⟩ := H
   refine JO_sindex (s := t0_) (i := t7_) (c := c1) ul_9 rfl rfl g2 g3 ?_
   obtain ⟨c4, hq_⟩ : ∃ q : Int, q = (c1.toNat : Int) := ⟨_, rfl⟩; rw [← hq_] at H ⊢; clear hq_
   refine JO_assign (v := .int .u8 c4) rfl ?_
   refine JO_nil ?_
   refine J_seq ?_
   refine J_region (by decide) ?_
   refine JO_move (v := .int .u8 c4) rfl ?_
   refine JO_iop (op := .lss) (k := .u8) (a := c4) (b := 97) rfl rfl trivial ?_
   refine JO_move (v := .bool (decide (c4 < 97))) rfl ?_
   refine JO_cut 3 (F197_3 t0_ t6_ K X next2) ?_ ?_
   ·
    obtain ⟨H1, H2⟩ := H
    obtain hc_ | hc_ := ff_or_tt (decide (c4 < 97))
    ·
     replace H := H2 hc_
     clear H1 H2
     have hg5 := (congrArg Value.bool hc_ : Value.bool (decide (c4 < 97)) = Value.bool false)
     refine JO_on (s := 15) hg5 ?_
     refine JO_move (v := .int .u8 c4) rfl ?_
     refine JO_on (s := 15) hg5 ?_
     refine JO_iop (op := .gtr) (k := .u8) (a := c4) (b := 122) rfl rfl trivial ?_
     refine JO_pick (b := false) (v := .bool (decide (c4 > 122))) hg5 rfl ?_
     refine JO_nil ?_
     exact (show F197_3 t0_ t6_ K X next2 _ _ from ⟨c4, t7_, decide (c4 > 122), _, hD, h0, rfl, h6, h7, rfl, hP, H⟩)
    ·
     replace H := H1 hc_
     clear H1 H2
     have hg6 := (congrArg Value.bool hc_ : Value.bool (decide (c4 < 97)) = Value.bool true)
     refine JO_off (s := 15) (c := true) hg6 (by decide) ?_
     refine JO_off (s := 15) (c := true) hg6 (by decide) ?_
     refine JO_pick (b := true) (v := .bool true) hg6 rfl ?_
     refine JO_nil ?_
     exact (show F197_3 t0_ t6_ K X next2 _ _ from ⟨c4, t7_, true, _, hD, h0, rfl, h6, h7, rfl, hP, H⟩)
   ·
    rintro e Mp ⟨t4_, t7_, t18_, M, hD, h0, h4, h6, h7, h18, hP, H⟩
    unfold S197_3 at H
    refine JO_move (v := .bool t18_) h18 ?_
    refine JO_cut 7 (F197_4 t0_ t6_ K X next2) ?_ ?_
    ·
     obtain ⟨H1, H2⟩ := H
     obtain hc_ | hc_ := ff_or_tt t18_
     ·
      replace H := H2 hc_
      clear H1 H2
      have hg7 := (congrArg Value.bool hc_ : Value.bool t18_ = Value.bool false)
      refine JO_off (s := 19) (c := false) hg7 (by decide) ?_
      refine JO_off (s := 19) (c := false) hg7 (by decide) ?_
      refine JO_off (s := 19) (c := false) hg7 (by decide) ?_
      refine JO_offU (s := 22) rfl ?_
      refine JO_offU (s := 22) rfl ?_
      refine JO_off (s := 19) (c := false) hg7 (by decide) ?_
      refine JO_pick (b := false) (v := .bool false) hg7 rfl ?_
      refine JO_nil ?_
      exact (show F197_4 t0_ t6_ K X next2 _ _ from ⟨t4_, t7_, false, _, hD, h0, h4, h6, h7, rfl, hP, H⟩)
     ·
      replace H := H1 hc_
      clear H1 H2
      have hg8 := (congrArg Value.bool hc_ : Value.bool t18_ = Value.bool true)
      refine JO_on (s := 19) hg8 ?_
      refine JO_move (v := .int .u8 t4_) h4 ?_
      refine JO_on (s := 19) hg8 ?_
      refine JO_iop (op := .lss) (k := .u8) (a := t4_) (b := 48) rfl rfl trivial ?_
      refine JO_on (s := 19) hg8 ?_
      refine JO_move (v := .bool (decide (t4_ < 48))) rfl ?_
      refine JO_cut 3 (F197_5 t0_ t6_ K X next2) ?_ ?_
      ·
       obtain ⟨H1, H2⟩ := H
       obtain hc_ | hc_ := ff_or_tt (decide (t4_ < 48))
       ·
        replace H := H2 hc_
        clear H1 H2
        have hg9 := (congrArg Value.bool hc_ : Value.bool (decide (t4_ < 48)) = Value.bool false)
        refine JO_on (s := 22) hg9 ?_
        refine JO_move (v := .int .u8 t4_) h4 ?_
        refine JO_on (s := 22) hg9 ?_
        refine JO_iop (op := .gtr) (k := .u8) (a := t4_) (b := 57) rfl rfl trivial ?_
        refine JO_on (s := 19) hg8 ?_
        refine JO_pick (b := false) (v := .bool (decide (t4_ > 57))) hg9 rfl ?_
        refine JO_nil ?_
        exact (show F197_5 t0_ t6_ K X next2 _ _ from ⟨t4_, t7_, decide (t4_ > 57), _, hD, h0, h4, h6, h7, hg8, rfl, hP, H⟩)
       ·
        replace H := H1 hc_
        clear H1 H2
        have hg10 := (congrArg Value.bool hc_ : Value.bool (decide (t4_ < 48)) = Value.bool true)
        refine JO_off (s := 22) (c := true) hg10 (by decide) ?_
        refine JO_off (s := 22) (c := true) hg10 (by decide) ?_
        refine JO_on (s := 19) hg8 ?_
        refine JO_pick (b := true) (v := .bool true) hg10 rfl ?_
        refine JO_nil ?_
        exact (show F197_5 t0_ t6_ K X next2 _ _ from ⟨t4_, t7_, true, _, hD, h0, h4, h6, h7, hg8, rfl, hP, H⟩)
      ·
       rintro e Mp ⟨t4_, t7_, t25_, M, hD, h0, h4, h6, h7, h19, h25, hP, H⟩
       unfold S197_5 at H
       refine JO_pick (b := true) (v := .bool t25_) h19 h25 ?_
       refine JO_nil ?_
       exact (show F197_4 t0_ t6_ K X next2 _ _ from ⟨t4_, t7_, t25_, _, hD, h0, h4, h6, h7, rfl, hP, H⟩)
    ·
     rintro e Mp ⟨t4_, t7_, t26_, M, hD, h0, h4, h6, h7, h26, hP, H⟩
     unfold S197_4 at H
     refine JO_move (v := .bool t26_) h26 ?_
     refine JO_cut 3 (F197_6 t0_ t6_ K X next2) ?_ ?_
     ·
      obtain ⟨H1, H2⟩ := H
      obtain hc_ | hc_ := ff_or_tt t26_
      ·
       replace H := H2 hc_
       clear H1 H2
       have hg11 := (congrArg Value.bool hc_ : Value.bool t26_ = Value.bool false)
       refine JO_off (s := 27) (c := false) hg11 (by decide) ?_
       refine JO_off (s := 27) (c := false) hg11 (by decide) ?_
       refine JO_pick (b := false) (v := .bool false) hg11 rfl ?_
       refine JO_nil ?_
       exact (show F197_6 t0_ t6_ K X next2 _ _ from ⟨t4_, t7_, false, _, hD, h0, h4, h6, h7, rfl, hP, H⟩)
      ·
       replace H := H1 hc_
       clear H1 H2
       have hg12 := (congrArg Value.bool hc_ : Value.bool t26_ = Value.bool true)
       refine JO_on (s := 27) hg12 ?_
       refine JO_move (v := .int .u8 t4_) h4 ?_
       refine JO_on (s := 27) hg12 ?_
       refine JO_iop (op := .neq) (k := .u8) (a := t4_) (b := 46) rfl rfl trivial ?_
       refine JO_pick (b := true) (v := .bool (t4_ != 46)) hg12 rfl ?_
       refine JO_nil ?_
       exact (show F197_6 t0_ t6_ K X next2 _ _ from ⟨t4_, t7_, t4_ != 46, _, hD, h0, h4, h6, h7, rfl, hP, H⟩)
     ·
      rintro e Mp ⟨t4_, t7_, t30_, M, hD, h0, h4, h6, h7, h30, hP, H⟩
      unfold S197_6 at H
      refine JO_move (v := .bool t30_) h30 ?_
      refine JO_cut 3 (F197_7 t0_ t6_ K X next2) ?_ ?_
      ·
       obtain ⟨H1, H2⟩ := H
       obtain hc_ | hc_ := ff_or_tt t30_
       ·
        replace H := H2 hc_
        clear H1 H2
        have hg13 := (congrArg Value.bool hc_ : Value.bool t30_ = Value.bool false)
        refine JO_off (s := 31) (c := false) hg13 (by decide) ?_
        refine JO_off (s := 31) (c := false) hg13 (by decide) ?_
        refine JO_pick (b := false) (v := .bool false) hg13 rfl ?_
        refine JO_nil ?_
        exact (show F197_7 t0_ t6_ K X next2 _ _ from ⟨t4_, t7_, false, _, hD, h0, h4, h6, h7, rfl, hP, H⟩)
       ·
        replace H := H1 hc_
        clear H1 H2
        have hg14 := (congrArg Value.bool hc_ : Value.bool t30_ = Value.bool true)
        refine JO_on (s := 31) hg14 ?_
        refine JO_move (v := .int .u8 t4_) h4 ?_
        refine JO_on (s := 31) hg14 ?_
        refine JO_iop (op := .neq) (k := .u8) (a := t4_) (b := 45) rfl rfl trivial ?_
        refine JO_pick (b := true) (v := .bool (t4_ != 45)) hg14 rfl ?_
        refine JO_nil ?_
        exact (show F197_7 t0_ t6_ K X next2 _ _ from ⟨t4_, t7_, t4_ != 45, _, hD, h0, h4, h6, h7, rfl, hP, H⟩)
      ·
       rintro e Mp ⟨t4_, t7_, t34_, M, hD, h0, h4, h6, h7, h34, hP, H⟩
       unfold S197_7 at H
       refine JO_move (v := .bool t34_) h34 ?_
       refine JO_cut 3 (F197_8 t0_ t6_ K X next2) ?_ ?_
       ·
        obtain ⟨H1, H2⟩ := H
        obtain hc_ | hc_ := ff_or_tt t34_
        ·
         replace H := H2 hc_
         clear H1 H2
         have hg15 := (congrArg Value.bool hc_ : Value.bool t34_ = Value.bool false)
         refine JO_off (s := 35) (c := false) hg15 (by decide) ?_
         refine JO_off (s := 35) (c := false) hg15 (by decide) ?_
         refine JO_pick (b := false) (v := .bool false) hg15 rfl ?_
         refine JO_nil ?_
         exact (show F197_8 t0_ t6_ K X next2 _ _ from ⟨t7_, false, _, hD, h0, h6, h7, rfl, hP, H⟩)
        ·
         replace H := H1 hc_
         clear H1 H2
         have hg16 := (congrArg Value.bool hc_ : Value.bool t34_ = Value.bool true)
         refine JO_on (s := 35) hg16 ?_
         refine JO_move (v := .int .u8 t4_) h4 ?_
         refine JO_on (s := 35) hg16 ?_
         refine JO_iop (op := .neq) (k := .u8) (a := t4_) (b := 95) rfl rfl trivial ?_
         refine JO_pick (b := true) (v := .bool (t4_ != 95)) hg16 rfl ?_
         refine JO_nil ?_
         exact (show F197_8 t0_ t6_ K X next2 _ _ from ⟨t7_, t4_ != 95, _, hD, h0, h6, h7, rfl, hP, H⟩)
       ·
        rintro e Mp ⟨t7_, t38_, M, hD, h0, h6, h7, h38, hP, H⟩
        unfold S197_8 at H
        refine JO_nil ?_
        refine J_cond (t := t38_) h38 (fun hc_ => ?_) (fun hc_ => ?_)
        ·
         replace H := H.1 hc_
         clear hc_
         refine J_seq ?_
         refine J_region (by decide) ?_
         refine JO_assign (v := .bool false) rfl ?_
         refine JO_nil ?_
         exact J_ret (kret (pan := X)  hD (fun _ _ hb => hP.sub hb) (resOk (rs := [.tmp 2]) (vs := [.bool false]) rfl ⟨item_tmp rfl, trivial⟩) ⟨false, rfl, H⟩)
        ·
         replace H := H.2 hc_
         clear hc_
         refine J_skip ?_
         refine J_region (by decide) ?_
         refine JO_iop (op := .add) (k := .i64) (a := t7_) (b := 1) h7 rfl trivial ?_
         refine JO_move (v := .int .i64 (IntKind.wrap .i64 (t7_ + 1))) rfl ?_
         refine JO_nil ?_
         exact ⟨IntKind.wrap .i64 (t7_ + 1), _, ⟨hD, h0, h6, rfl, hP⟩, H⟩
  ·
   replace H := H.2 hc_
   clear hc_
   refine J_exit ?_
   exact (show F197_1 K X _ _ from ⟨t0_, _, hD, h0, hP, H⟩)
 ·
  rintro e Mp ⟨t0_, M, hD, h0, hP, H⟩
  unfold S197_1 at H
  refine J_seq ?_
  refine J_region (by decide) ?_
  refine JO_move (v := .string t0_) h0 ?_
  refine JO_slen (a := t0_) ul_9 rfl ?_
  refine JO_iop (op := .geq) (k := .i64) (a := (t0_.size : Int)) (b := 1) rfl rfl trivial ?_
  refine JO_move (v := .bool (decide ((t0_.size : Int) ≥ 1))) rfl ?_
  refine JO_cut 4 (F197_9 K X) ?_ ?_
  ·
   obtain ⟨H1, H2⟩ := H
   obtain hc_ | hc_ := ff_or_tt (decide ((t0_.size : Int) ≥ 1))
   ·
    replace H := H2 hc_
    clear H1 H2
    have hg17 := (congrArg Value.bool hc_ : Value.bool (decide ((t0_.size : Int) ≥ 1)) = Value.bool false)
    refine JO_off (s := 43) (c := false) hg17 (by decide) ?_
    refine JO_off (s := 43) (c := false) hg17 (by decide) ?_
    refine JO_off (s := 43) (c := false) hg17 (by decide) ?_
    refine JO_pick (b := false) (v := .bool false) hg17 rfl ?_
    refine JO_nil ?_
    exact (show F197_9 K X _ _ from ⟨false, _, hD, rfl, hP, H⟩)
   ·
    replace H := H1 hc_
    clear H1 H2
    have hg18 := (congrArg Value.bool hc_ : Value.bool (decide ((t0_.size : Int) ≥ 1)) = Value.bool true)
    refine JO_on (s := 43) hg18 ?_
    refine JO_move (v := .string t0_) h0 ?_
    refine JO_on (s := 43) hg18 ?_
    refine JO_slen (a := t0_) ul_9 rfl ?_
    refine JO_on (s := 43) hg18 ?_
    refine JO_iop (op := .leq) (k := .i64) (a := (t0_.size : Int)) (b := 80) rfl rfl trivial ?_
    refine JO_pick (b := true) (v := .bool (decide ((t0_.size : Int) ≤ 80))) hg18 rfl ?_
    refine JO_nil ?_
    exact (show F197_9 K X _ _ from ⟨decide ((t0_.size : Int) ≤ 80), _, hD, rfl, hP, H⟩)
  ·
   rintro e Mp ⟨t47_, M, hD, h47, hP, H⟩
   unfold S197_9 at H
   refine JO_assign (v := .bool t47_) h47 ?_
   refine JO_nil ?_
   exact J_ret (kret (pan := X)  hD (fun _ _ hb => hP.sub hb) (resOk (rs := [.tmp 2]) (vs := [.bool t47_]) rfl ⟨item_tmp rfl, trivial⟩) ⟨t47_, rfl, H⟩)

/-! brazier/digest.Crc -/
def S201 (t0 : Sl) (K : Int → Mem → Prop) (X : List PanicEntry → Mem → Prop) : Mem → Prop :=
 call 282 [.int .u32 0, Sl.v t0] X fun v_ M => ∃ (r1 : Int), v_ = .int .u32 r1 ∧ ( K r1) M
theorem br201 {t0 : Sl} {K : Int → Mem → Prop} {X : List PanicEntry → Mem → Prop} {M : Mem} (H : S201 t0 K X M) :
  Spec Tryz.prog 201 #[Sl.v t0] M (fun v_ M => ∃ (r0 : Int), v_ = .int .u32 r0 ∧ K r0 M) X := by
 refine spec_of_J (args := [Sl.v t0]) Tryz.func201 rfl Tryz.ntmps201 (Nat.le_of_ble_eq_true rfl) ?_
 have hD : (⟨fun i => ([Sl.v t0] : List Value).getD i undef, []⟩ : Env).D = [] := rfl
 have hP := Pv.nil M
 have hX := @kx_of Tryz.prog Tryz.f201 (fun v_ M => ∃ (r0 : Int), v_ = .int .u32 r0 ∧ K r0 M) X
 unfold S201 at H
 refine J_seq ?_
 refine J_region (by decide) ?_
 refine JO_assign (v := .int .u32 0) rfl ?_
 refine JO_nil ?_
 refine J_seq ?_
 refine J_region (by decide) ?_
 refine JO_move (v := Sl.v t0) rfl ?_
 refine JO_call Tryz.call282 (vs := [.int .u32 0, Sl.v t0]) (mc rfl (mc rfl mn)) ((hP.spec H).mono ?_ (fun ch Mp h => hX hD h))
 rintro v Mp ⟨M, hP, r1, rfl, H⟩
 refine JO_assign (v := .int .u32 r1) rfl ?_
 refine JO_nil ?_
 exact J_ret (kret (pan := X)  hD (fun _ _ hb => hP.sub hb) (resOk (rs := [.tmp 2]) (vs := [.int .u32 r1]) rfl ⟨item_tmp rfl, trivial⟩) ⟨r1, rfl, H⟩)

/-! (*brazier/disk.Disk).Used -/
def S205_2b (a1_ : PA) (t2_ : Int) (a3_ : PA) (t12_ : Value) (K : Int → Mem → Prop) (X : List PanicEntry → Mem → Prop) (y13 : ByteArray) (y14 : Int) (nx2 : Mem → Prop) (rt2 : Code → Mem → Prop) : Mem → Prop :=
 ldI .i64 a3_ fun t15_15 => ldP a1_ fun t16_17 => nn t16_17 fun a19 => ldL a19 fun t19_21 => ix t19_21 2 y14 fun p27 => ldL p27 fun t23_28 => st a3_ (.int .i64 (IntKind.wrap .i64 (t15_15 + (t23_28.n : Int)))) <| nx2
def S205_1 (a3_ : PA) (K : Int → Mem → Prop) (X : List PanicEntry → Mem → Prop) : Mem → Prop :=
 ldI .i64 a3_ fun t26_31 => K t26_31
def S205_2 (a1_ : PA) (t2_ : Int) (a3_ : PA) (t12_ : Value) (K : Int → Mem → Prop) (X : List PanicEntry → Mem → Prop) : Mem → Prop :=
 rng t12_ 2 (fun args_ nx rt M => ∃ (y13 : ByteArray) (y14 : Int), args_ = [.string y13, .int .i64 y14] ∧ S205_2b a1_ t2_ a3_ t12_ K X y13 y14 nx rt M) (S205_1 a3_ K X) (fun _ _ => False)
def S205 (t0 : Option PA) (K : Int → Mem → Prop) (X : List PanicEntry → Mem → Prop) : Mem → Prop :=
 new (.cells #[ptr t0] 26 (0, 0)) fun b1 => new (.cells #[.int .i64 0] 3 (0, 0)) fun b2 => st (b2, 0) (.int .i64 0) <| ldP (b1, 0) fun t6_4 => ite' t6_4.isSome (ldP (b1, 0) fun t8_6 => nn t8_6 fun a8 => ldP (a8.1, a8.2 + 1) fun t11_10 => call 117 [ptr t11_10] X fun v_ M => ∃ (r12 : Value), v_ = r12 ∧ ( S205_2 (b1, 0) 0 (b2, 0) r12 K X) M) (S205_1 (b2, 0) K X)
abbrev F205_2 (K : Int → Mem → Prop) (X : List PanicEntry → Mem → Prop) (e : Env) (Mp : Mem) : Prop := ∃ (a1_ : PA) (t2_ : Int) (a3_ : PA) (t12_ : Value) (M : Mem), e.D = [] ∧ e.v 1 = ptr (some a1_) ∧ e.v 2 = .int .i64 t2_ ∧ e.v 3 = ptr (some a3_) ∧ e.v 12 = t12_ ∧ Pv M [] Mp ∧ S205_2 a1_ t2_ a3_ t12_ K X M
abbrev F205_1 (K : Int → Mem → Prop) (X : List PanicEntry → Mem → Prop) (e : Env) (Mp : Mem) : Prop := ∃ (a3_ : PA) (M : Mem), e.D = [] ∧ e.v 3 = ptr (some a3_) ∧ Pv M [] Mp ∧ S205_1 a3_ K X M
theorem br205 {t0 : Option PA} {K : Int → Mem → Prop} {X : List PanicEntry → Mem → Prop} {M : Mem} (H : S205 t0 K X M) :
  Spec Tryz.prog 205 #[ptr t0] M (fun v_ M => ∃ (r0 : Int), v_ = .int .i64 r0 ∧ K r0 M) X := by
 refine spec_of_J (args := [ptr t0]) Tryz.func205 rfl Tryz.ntmps205 (Nat.le_of_ble_eq_true rfl) ?_
 have hD : (⟨fun i => ([ptr t0] : List Value).getD i undef, []⟩ : Env).D = [] := rfl
 have hP := Pv.nil M
 have hX := @kx_of Tryz.prog Tryz.f205 (fun v_ M => ∃ (r0 : Int), v_ = .int .i64 r0 ∧ K r0 M) X
 unfold S205 at H
 refine J_seq ?_
 refine J_region (by decide) ?_
 refine JO_box (v := ptr t0) rfl ?_
 intro b1 hb
 replace H := H b1 (hP.out hb).1
 replace hP := hP.new hb (.cells #[ptr t0] 26 (0, 0))
 refine JO_assign (v := .int .i64 0) rfl ?_
 refine JO_nil ?_
 refine J_seq ?_
 refine J_region (by decide) ?_
 refine JO_alloc (cs := [.int .i64 0]) zc_3 ?_
 intro b2 hb
 replace H := H b2 (hP.out hb).1
 replace hP := hP.new hb (.cells #[.int .i64 0] 3 (0, 0))
 obtain ⟨g3, H⟩ := H
 refine JO_store (p := (b2, 0)) (v := .int .i64 0) sz_3 rfl rfl rfl (hP.wr g3) ?_
 replace hP := hP.sto g3 (.int .i64 0)
 refine JO_nil ?_
 refine J_seqF (F205_1 K X) ?_ ?_
 ·
  refine J_seq ?_
  refine J_region (by decide) ?_
  obtain ⟨t6_4, g5, H⟩ := H
  refine JO_load (p := (b1, 0)) (v := ptr t6_4) na_26 rfl (hP.cel g5) ?_
  refine JO_neqNil (p := t6_4) ip_26 rfl rfl ?_
  refine JO_nil ?_
  refine J_cond (t := t6_4.isSome) rfl (fun hc_ => ?_) (fun hc_ => ?_)
  ·
   replace H := H.1 hc_
   clear hc_
   refine J_seq ?_
   refine J_region (by decide) ?_
   obtain ⟨t8_6, g7, H⟩ := H
   refine JO_load (p := (b1, 0)) (v := ptr t8_6) na_26 rfl (hP.cel g7) ?_
   obtain ⟨a8, g9, H⟩ := H
   refine JO_nilCheck (p := a8) (tr1 (rfl : _ = ptr t8_6) (congrArg ptr g9)) ?_
   refine JO_fieldAddr (p := a8) fo_115_1 rfl ?_
   obtain ⟨t11_10, g11, H⟩ := H
   refine JO_load (p := (a8.1, a8.2 + 1)) (v := ptr t11_10) na_108 rfl (hP.cel g11) ?_
   refine JO_call Tryz.call117 (vs := [ptr t11_10]) (mc rfl mn) ((hP.spec H).mono ?_ (fun ch Mp h => hX hD h))
   rintro r12 Mp ⟨M, hP, _, rfl, H⟩
   refine JO_nil ?_
   refine J_block ?_
   refine J_of (F205_2 K X) (show F205_2 K X _ _ from ⟨(b1, 0), 0, (b2, 0), r12, _, hD, rfl, rfl, rfl, rfl, hP, H⟩) ?_
   rintro e Mp ⟨a1_, t2_, a3_, t12_, M, hD, h1, h2, h3, h12, hP, H⟩
   unfold S205_2 at H
   refine J_forget (fun _ _ hb => hP.sub hb) ?_
   obtain ⟨f_, caps_, hf_, he_, H⟩ := H
   refine J_range (gf := f_) (caps := caps_) (h12.trans hf_) he_ (by decide) ?_
   intro y_ l_ oR_ oD_ hM_ law_
   refine (H y_ l_ oR_ oD_ hM_ ?_).mono ?_ (fun _ _ f => f)
   ·
    rintro args_ κ_ M hlen_ hl_ ⟨y13, y14, rfl, hb_⟩ ro_
    refine law_ _ κ_ M hlen_ hl_ ?_ ro_
    obtain ⟨nx2, rt2, hn_2, hr_2, H⟩ : ∃ (nx : Mem → Prop) (rt : Code → Mem → Prop), (∀ M, M l_ = none → nx M → κ_ (.bool true) (M.upd l_ oR_)) ∧ (∀ c M, M l_ = none → rt c M → κ_ (.bool false) (M.upd l_ (oD_ c))) ∧ S205_2b a1_ t2_ a3_ t12_ K X y13 y14 nx rt (M.del l_) := ⟨_, _, fun _ h0 h => h h0, fun _ _ h0 h => h h0, hb_⟩
    clear hb_ hlen_ hl_ hP
    generalize M.del l_ = M at H ⊢
    have hP := Pv.nil M
    have hD : ([] : List Deferred) = [] := rfl
    unfold S205_2b at H
    refine J_region (by decide) ?_
    refine JO_assign (v := .int .i64 y14) rfl ?_
    refine JO_nil ?_
    refine kd_nx ?_
    refine J_block ?_
    refine J_draw [1, 1, 0, 0, 1, 0, 0, 0, 1, 0, 0, 3] (.cho 5 (.cho 0 (.cho 1 (.cho 2 (.cho 3 (.cho 4 (.cho 6 (.cho 7 (.cho 8 (.cho 9 (.cho 10 (.cho 11 .done .none) .none) .none) .none) .none) .none) .none) .none) .none) .none) .none) .none) rfl (by kernel_rfl) ?_
    refine JE_one ?_
    refine ST0 (fun _ h => by cases h) (fun w => OV_move (v := .int .i64 y14) rfl w) ?_
    refine JE_one ?_
    obtain ⟨t15_15, g16, H⟩ := H
    refine ST1 (fun _ h => by cases h) (fun w hs => OV_load (p := a3_) (v := .int .i64 t15_15) na_3 (by exact h3) (hP.cel g16) w hs) ?_
    refine JE_one ?_
    obtain ⟨t16_17, g18, H⟩ := H
    refine ST1 (fun _ h => by cases h) (fun w hs => OV_load (p := a1_) (v := ptr t16_17) na_26 (by exact h1) (hP.cel g18) w hs) ?_
    refine JE_one ?_
    obtain ⟨a19, g20, H⟩ := H
    refine ST0 (fun _ h => by cases h) (fun w => OV_nilCheck (p := a19) (by exact tr1 (rfl : _ = ptr t16_17) (congrArg ptr g20)) w) ?_
    refine JE_one ?_
    refine ST0 (fun _ h => by cases h) (fun w => OV_fieldAddr (p := a19) fo_115_0 rfl w) ?_
    refine JE_one ?_
    obtain ⟨t19_21, g22, H⟩ := H
    refine ST1 (fun _ h => by cases h) (fun w hs => OV_load (p := a19) (v := Sl.v t19_21) na_112 rfl (hP.cel g22) w hs) ?_
    refine JE_one ?_
    obtain ⟨a23, g24, g25, g26, H⟩ := H
    refine ST0 (fun _ h => by cases h) (fun w => OV_indexAddr (s := t19_21) (p := a23) (i := y14) es_112 rfl rfl g24 g25 g26 w) ?_
    obtain ⟨p27, hq_⟩ : ∃ q : PA, q = (a23.1, a23.2 + (y14 : Int).toNat * 2) := ⟨_, rfl⟩; rw [← hq_] at H ⊢; clear hq_
    refine JE_one ?_
    refine ST0 (fun _ h => by cases h) (fun w => OV_fieldAddr (p := p27) fo_135_0 rfl w) ?_
    refine JE_one ?_
    obtain ⟨t23_28, g29, H⟩ := H
    refine ST1 (fun _ h => by cases h) (fun w hs => OV_load (p := p27) (v := Sl.v t23_28) na_32 rfl (hP.cel g29) w hs) ?_
    refine JE_one ?_
    refine ST0 (fun _ h => by cases h) (fun w => OV_len (s := t23_28) is_32 rfl w) ?_
    refine JE_one ?_
    refine ST0 (fun _ h => by cases h) (fun w => OV_iop (op := .add) (k := .i64) (a := t15_15) (b := (t23_28.n : Int)) rfl rfl trivial w) ?_
    refine JE_one ?_
    refine ST3 ?_
    obtain ⟨g30, H⟩ := H
    refine JO_store (p := a3_) (v := .int .i64 (IntKind.wrap .i64 (t15_15 + (t23_28.n : Int)))) sz_3 (by exact h3) rfl rfl (hP.wr g30) ?_
    replace hP := hP.sto g30 (.int .i64 (IntKind.wrap .i64 (t15_15 + (t23_28.n : Int))))
    refine Kd_nil ?_
    refine JE_done ?_
    exact rb_nx (oR := oR_) (oD := oD_) (e := ⟨fun _ => undef, []⟩) fun hl_ => ⟨_, fun _ _ hb => hP.sub hb, hn_2 _ (sub_none (b := l_) (fun _ _ hb => hP.sub hb) hl_) H⟩
   ·
    rintro _ M (⟨hl_, H⟩ | ⟨c_, hl_, H⟩)
    ·
     refine .inl ⟨hl_, ?_⟩
     clear hl_ hP
     generalize M.del l_ = M at H ⊢
     have hP := Pv.nil M
     exact (show F205_1 K X _ _ from ⟨a3_, _, hD, h3, hP, H⟩)
    ·
     exact H.elim
  ·
   replace H := H.2 hc_
   clear hc_
   refine J_skip ?_
   exact (show F205_1 K X _ _ from ⟨(b2, 0), _, hD, rfl, hP, H⟩)
 ·
  rintro e Mp ⟨a3_, M, hD, h3, hP, H⟩
  unfold S205_1 at H
  refine J_seq ?_
  refine J_region (by decide) ?_
  obtain ⟨t26_31, g32, H⟩ := H
  refine JO_load (p := a3_) (v := .int .i64 t26_31) na_3 h3 (hP.cel g32) ?_
  refine JO_assign (v := .int .i64 t26_31) rfl ?_
  refine JO_nil ?_
  exact J_ret (kret (pan := X)  hD (fun _ _ hb => hP.sub hb) (resOk (rs := [.tmp 2]) (vs := [.int .i64 t26_31]) rfl ⟨item_tmp rfl, trivial⟩) ⟨t26_31, rfl, H⟩)

/-! (*brazier/sets.Row[string, int]).loop$1 -/
def S275_1 (K : Mem → Prop) (X : List PanicEntry → Mem → Prop) : Mem → Prop :=
 K
def S275_2b (t0_ : Value) (t5_ : Sl) (t6_ : Sl) (t27_ : Int) (K : Mem → Prop) (X : List PanicEntry → Mem → Prop) (t28_ : Int) (next2 : Int → Mem → Prop) : Mem → Prop :=
 ite' (decide (t28_ < t27_)) (ix t5_ 1 t28_ fun p30 => ix t6_ 1 t28_ fun p35 => ldS p30 fun t35_36 => ldI .i64 p35 fun t39_38 => callV t0_ [.string t35_36, .int .i64 t39_38] (fun _ _ => False) fun v_ M => ∃ (r40 : Bool), v_ = .bool r40 ∧ ( ite' (!r40) (K) (next2 (IntKind.wrap .i64 (t28_ + 1)))) M) (S275_1 K X)
def S275_2 (t0_ : Value) (t5_ : Sl) (t6_ : Sl) (t27_ : Int) (t28_ : Int) (K : Mem → Prop) (X : List PanicEntry → Mem → Prop) : Mem → Prop :=
 Lp (fun (s_ : Int) next2 => S275_2b t0_ t5_ t6_ t27_ K X s_ next2) t28_
def S275 (t0 : Value) (t1 : Option PA) (t2 : Option PA) (K : Mem → Prop) (X : List PanicEntry → Mem → Prop) : Mem → Prop :=
 nn t1 fun a1 => ldP a1 fun t8_3 => ite' t8_3.isNone (K) (nn t2 fun a5 => ldV a5 fun t10_7 => callV t10_7 [] X fun v_ M => ∃ (r9 : Int), v_ = .int .i64 r9 ∧ ( ldP a1 fun t12_10 => nn t12_10 fun a12 => ldL a12 fun t15_14 => must (0 ≤ r9 ∧ r9 ≤ (t15_14.n : Int) ∧ True ∧ (t15_14.c : Int) ≤ (t15_14.c : Int)) <| ldP a1 fun t19_17 => nn t19_17 fun a19 => ldL (a19.1, a19.2 + 1) fun t22_21 => must (0 ≤ r9 ∧ r9 ≤ (t22_21.n : Int) ∧ True ∧ (t22_21.c : Int) ≤ (t22_21.c : Int)) <| callK 154 [Sl.v (Sl.cut t15_14 1 r9 (t15_14.n : Int) (t15_14.c : Int))] fun v_ M => ∃ (r24 : Sl), v_ = Sl.v r24 ∧ ( callK 276 [Sl.v (Sl.cut t22_21 1 r9 (t22_21.n : Int) (t22_21.c : Int))] fun v_ M => ∃ (r25 : Sl), v_ = Sl.v r25 ∧ ( S275_2 t0 r24 r25 (r24.n : Int) 0 K X) M) M) M)
abbrev F275_2 (K : Mem → Prop) (X : List PanicEntry → Mem → Prop) (e : Env) (Mp : Mem) : Prop := ∃ (t0_ : Value) (t5_ : Sl) (t6_ : Sl) (t27_ : Int) (t28_ : Int) (M : Mem), e.D = [] ∧ e.v 0 = t0_ ∧ e.v 5 = Sl.v t5_ ∧ e.v 6 = Sl.v t6_ ∧ e.v 27 = .int .i64 t27_ ∧ e.v 28 = .int .i64 t28_ ∧ Pv M [] Mp ∧ S275_2 t0_ t5_ t6_ t27_ t28_ K X M
abbrev F275_1 (K : Mem → Prop) (X : List PanicEntry → Mem → Prop) (e : Env) (Mp : Mem) : Prop := ∃ (M : Mem), e.D = [] ∧ Pv M [] Mp ∧ S275_1  K X M
theorem br275 {t0 : Value} {t1 : Option PA} {t2 : Option PA} {K : Mem → Prop} {X : List PanicEntry → Mem → Prop} {M : Mem} (H : S275 t0 t1 t2 K X M) :
  Spec Tryz.prog 275 #[t0, ptr t1, ptr t2] M (fun _ M => K M) X := by
 refine spec_of_J (args := [t0, ptr t1, ptr t2]) Tryz.func275 rfl Tryz.ntmps275 (Nat.le_of_ble_eq_true rfl) ?_
 have hD : (⟨fun i => ([t0, ptr t1, ptr t2] : List Value).getD i undef, []⟩ : Env).D = [] := rfl
 have hP := Pv.nil M
 have hX := @kx_of Tryz.prog Tryz.f275 (fun _ M => K M) X
 unfold S275 at H
 refine J_seq ?_
 refine J_seq ?_
 refine J_region (by decide) ?_
 obtain ⟨a1, g2, H⟩ := H
 obtain ⟨t8_3, g4, H⟩ := H
 refine JO_load (p := a1) (v := ptr t8_3) na_108 (tr1 (rfl : _ = ptr t1) (congrArg ptr g2)) (hP.cel g4) ?_
 refine JO_eqlNil (p := t8_3) ip_108 rfl rfl ?_
 refine JO_nil ?_
 refine J_cond (t := t8_3.isNone) rfl (fun hc_ => ?_) (fun hc_ => ?_)
 ·
  replace H := H.1 hc_
  clear hc_
  exact J_ret (kret (pan := X)  hD (fun _ _ hb => hP.sub hb) (resOk (rs := []) (vs := []) rfl trivial) H)
 ·
  replace H := H.2 hc_
  clear hc_
  refine J_skip ?_
  refine J_seq ?_
  refine J_region (by decide) ?_
  obtain ⟨a5, g6, H⟩ := H
  obtain ⟨t10_7, g8, H⟩ := H
  refine JO_load (p := a5) (v := t10_7) na_44 (tr1 (rfl : _ = ptr t2) (congrArg ptr g6)) (hP.cel g8) ?_
  refine JO_callV (vs := []) rfl mn ((hP.callV (H _)).mono ?_ (fun ch Mp h => hX hD h))
  rintro v Mp ⟨M, hP, r9, rfl, H⟩
  refine JO_assign (v := .int .i64 r9) rfl ?_
  refine JO_nil ?_
  refine J_seq ?_
  refine J_draw [1, 0, 0, 1, 0, 0, 4, 1, 0, 0, 1, 0, 0, 4, 0, 0] (.cho 4 (.cho 11 (.cho 0 (.cho 1 (.cho 2 (.cho 3 (.cho 5 (.cho 7 (.cho 8 (.cho 9 (.cho 10 (.cho 12 (.cho 6 (.cho 13 (.cho 14 (.cho 15 .done .none) .none) .none) .none) .none) .none) .none) .none) .none) .none) .none) .none) .none) .none) .none) .none) rfl (by kernel_rfl) ?_
  refine JE_one ?_
  refine ST0 (fun _ h => by cases h) (fun w => OV_move (v := .int .i64 r9) rfl w) ?_
  refine JE_one ?_
  refine ST0 (fun _ h => by cases h) (fun w => OV_move (v := .int .i64 r9) rfl w) ?_
  refine JE_one ?_
  obtain ⟨t12_10, g11, H⟩ := H
  refine ST1 (fun _ h => by cases h) (fun w hs => OV_load (p := a1) (v := ptr t12_10) na_108 (by exact tr1 (rfl : _ = ptr t1) (congrArg ptr g2)) (hP.cel g11) w hs) ?_
  refine JE_one ?_
  obtain ⟨a12, g13, H⟩ := H
  refine ST0 (fun _ h => by cases h) (fun w => OV_nilCheck (p := a12) (by exact tr1 (rfl : _ = ptr t12_10) (congrArg ptr g13)) w) ?_
  refine JE_one ?_
  refine ST0 (fun _ h => by cases h) (fun w => OV_fieldAddr (p := a12) fo_111_0 rfl w) ?_
  refine JE_one ?_
  obtain ⟨t15_14, g15, H⟩ := H
  refine ST1 (fun _ h => by cases h) (fun w hs => OV_load (p := a12) (v := Sl.v t15_14) na_36 rfl (hP.cel g15) w hs) ?_
  refine JE_one ?_
  obtain ⟨g16, H⟩ := H
  refine ST0 (fun _ h => by cases h) (fun w => OV_slice (s := t15_14) (l := r9) (h := (t15_14.n : Int)) (m := (t15_14.c : Int)) es_36 rfl (by exact rfl) (by exact rfl) (by exact ⟨_, rfl⟩) g16.1 g16.2.1 (by simp) g16.2.2.2 (by simp) w) ?_
  refine JE_one ?_
  obtain ⟨t19_17, g18, H⟩ := H
  refine ST1 (fun _ h => by cases h) (fun w hs => OV_load (p := a1) (v := ptr t19_17) na_108 (by exact tr1 (rfl : _ = ptr t1) (congrArg ptr g2)) (hP.cel g18) w hs) ?_
  refine JE_one ?_
  obtain ⟨a19, g20, H⟩ := H
  refine ST0 (fun _ h => by cases h) (fun w => OV_nilCheck (p := a19) (by exact tr1 (rfl : _ = ptr t19_17) (congrArg ptr g20)) w) ?_
  refine JE_one ?_
  refine ST0 (fun _ h => by cases h) (fun w => OV_fieldAddr (p := a19) fo_111_1 rfl w) ?_
  refine JE_one ?_
  obtain ⟨t22_21, g22, H⟩ := H
  refine ST1 (fun _ h => by cases h) (fun w hs => OV_load (p := (a19.1, a19.2 + 1)) (v := Sl.v t22_21) na_109 rfl (hP.cel g22) w hs) ?_
  refine JE_one ?_
  obtain ⟨g23, H⟩ := H
  refine ST0 (fun _ h => by cases h) (fun w => OV_slice (s := t22_21) (l := r9) (h := (t22_21.n : Int)) (m := (t22_21.c : Int)) es_109 rfl (by exact rfl) (by exact rfl) (by exact ⟨_, rfl⟩) g23.1 g23.2.1 (by simp) g23.2.2.2 (by simp) w) ?_
  refine JE_one ?_
  refine ST4 ?_
  refine JO_call Tryz.call154 (vs := [Sl.v (Sl.cut t15_14 1 r9 (t15_14.n : Int) (t15_14.c : Int))]) (mc rfl mn) ((hP.specK H).mono ?_ (fun _ _ ⟨_, _, f⟩ => f.elim))
  rintro rv_ Mp ⟨M, hP', hk_, r24, rfl, H⟩
  refine Kd_nil ?_
  refine And.intro hk_ ?_
  replace hP := hP'
  refine JE_one ?_
  refine ST4 ?_
  refine JO_call Tryz.call276 (vs := [Sl.v (Sl.cut t22_21 1 r9 (t22_21.n : Int) (t22_21.c : Int))]) (mc rfl mn) ((hP.specK H).mono ?_ (fun _ _ ⟨_, _, f⟩ => f.elim))
  rintro rv_ Mp ⟨M, hP', hk_, r25, rfl, H⟩
  refine Kd_nil ?_
  refine And.intro hk_ ?_
  replace hP := hP'
  refine JE_one ?_
  refine ST0 (fun _ h => by cases h) (fun w => OV_assign (v := Sl.v r24) rfl w) ?_
  refine JE_one ?_
  refine ST0 (fun _ h => by cases h) (fun w => OV_assign (v := Sl.v r25) rfl w) ?_
  refine JE_done ?_
  refine J_seq ?_
  refine J_region (by decide) ?_
  refine JO_move (v := Sl.v r24) rfl ?_
  refine JO_len (s := r24) is_36 rfl ?_
  refine JO_move (v := .int .i64 0) rfl ?_
  refine JO_nil ?_
  refine J_blockF (F275_1 K X) ?_ ?_
  ·
   refine J_of (F275_2 K X) (show F275_2 K X _ _ from ⟨t0, r24, r25, (r24.n : Int), 0, _, hD, rfl, rfl, rfl, rfl, rfl, hP, H⟩) ?_
   rintro e Mp ⟨t0_, t5_, t6_, t27_, t28_, M, hD, h0, h5, h6, h27, h28, hP, H⟩
   unfold S275_2 at H
   refine J_loopP (σ := Int) (body := fun (s_ : Int) next2 => S275_2b t0_ t5_ t6_ t27_ K X s_ next2) (s := t28_) (M := M) (fun (s_ : Int) (e : Env) (M Mp : Mem) => e.D = [] ∧ e.v 0 = t0_ ∧ e.v 5 = Sl.v t5_ ∧ e.v 6 = Sl.v t6_ ∧ e.v 27 = .int .i64 t27_ ∧ e.v 28 = .int .i64 s_ ∧ Pv M [] Mp) ?_ ⟨hD, h0, h5, h6, h27, h28, hP⟩ H
   rintro next2 t28_ e M Mp ⟨hD, h0, h5, h6, h27, h28, hP⟩ H
   replace H : S275_2b t0_ t5_ t6_ t27_ K X t28_ next2 M := H
   unfold S275_2b at H
   refine J_seq ?_
   refine J_region (by decide) ?_
   refine JO_iop (op := .lss) (k := .i64) (a := t28_) (b := t27_) h28 h27 trivial ?_
   refine JO_nil ?_
   refine J_seq ?_
   refine J_cond (t := decide (t28_ < t27_)) rfl (fun hc_ => ?_) (fun hc_ => ?_)
   ·
    replace H := H.1 hc_
    clear hc_
    refine J_skip ?_
    refine J_seq ?_
    refine J_block ?_
    refine J_seq ?_
    refine J_region (by decide) ?_
    refine JO_move (v := .int .i64 t28_) h28 ?_
    refine JO_assign (v := .int .i64 t28_) rfl ?_
    refine JO_nil ?_
    refine J_seq ?_
    refine J_draw [0, 0, 0, 0, 1, 0, 0, 0, 1, 3, 0] (.cho 0 (.cho 1 (.cho 2 (.cho 3 (.cho 5 (.cho 6 (.cho 7 (.cho 4 (.cho 8 (.cho 9 (.cho 10 .done .none) .none) .none) .none) .none) .none) .none) .none) .none) .none) .none) rfl (by kernel_rfl) ?_
    refine JE_one ?_
    refine ST0 (fun _ h => by cases h) (fun w => OV_move (v := t0_) (by exact h0) w) ?_
    refine JE_one ?_
    refine ST0 (fun _ h => by cases h) (fun w => OV_move (v := Sl.v t5_) (by exact h5) w) ?_
    refine JE_one ?_
    refine ST0 (fun _ h => by cases h) (fun w => OV_move (v := .int .i64 t28_) rfl w) ?_
    refine JE_one ?_
    obtain ⟨a26, g27, g28, g29, H⟩ := H
    refine ST0 (fun _ h => by cases h) (fun w => OV_indexAddr (s := t5_) (p := a26) (i := t28_) es_36 rfl rfl g27 g28 g29 w) ?_
    obtain ⟨p30, hq_⟩ : ∃ q : PA, q = (a26.1, a26.2 + (t28_ : Int).toNat * 1) := ⟨_, rfl⟩; rw [← hq_] at H ⊢; clear hq_
    refine JE_one ?_
    refine ST0 (fun _ h => by cases h) (fun w => OV_move (v := Sl.v t6_) (by exact h6) w) ?_
    refine JE_one ?_
    refine ST0 (fun _ h => by cases h) (fun w => OV_move (v := .int .i64 t28_) rfl w) ?_
    refine JE_one ?_
    obtain ⟨a31, g32, g33, g34, H⟩ := H
    refine ST0 (fun _ h => by cases h) (fun w => OV_indexAddr (s := t6_) (p := a31) (i := t28_) es_109 rfl rfl g32 g33 g34 w) ?_
    obtain ⟨p35, hq_⟩ : ∃ q : PA, q = (a31.1, a31.2 + (t28_ : Int).toNat * 1) := ⟨_, rfl⟩; rw [← hq_] at H ⊢; clear hq_
    refine JE_one ?_
    obtain ⟨t35_36, g37, H⟩ := H
    refine ST1 (fun _ h => by cases h) (fun w hs => OV_load (p := p30) (v := .string t35_36) na_9 rfl (hP.cel g37) w hs) ?_
    refine JE_one ?_
    obtain ⟨t39_38, g39, H⟩ := H
    refine ST1 (fun _ h => by cases h) (fun w hs => OV_load (p := p35) (v := .int .i64 t39_38) na_3 rfl (hP.cel g39) w hs) ?_
    refine JE_one ?_
    refine ST3 ?_
    refine JO_callV (vs := [.string t35_36, .int .i64 t39_38]) rfl (mc rfl (mc rfl mn)) ((hP.callV (H _)).mono ?_ (fun _ _ ⟨_, _, f⟩ => f.elim))
    rintro v Mp ⟨M, hP, r40, rfl, H⟩
    refine Kd_nil ?_
    refine JE_one ?_
    refine ST0 (fun _ h => by cases h) (fun w => OV_not (b := r40) rfl w) ?_
    refine JE_done ?_
    refine J_cond (t := !r40) rfl (fun hc_ => ?_) (fun hc_ => ?_)
    ·
     replace H := H.1 hc_
     clear hc_
     exact J_ret (kret (pan := X)  hD (fun _ _ hb => hP.sub hb) (resOk (rs := []) (vs := []) rfl trivial) H)
    ·
     replace H := H.2 hc_
     clear hc_
     refine J_skip ?_
     refine J_region (by decide) ?_
     refine JO_iop (op := .add) (k := .i64) (a := t28_) (b := 1) h28 rfl trivial ?_
     refine JO_move (v := .int .i64 (IntKind.wrap .i64 (t28_ + 1))) rfl ?_
     refine JO_nil ?_
     exact ⟨IntKind.wrap .i64 (t28_ + 1), _, ⟨hD, h0, h5, h6, h27, rfl, hP⟩, H⟩
   ·
    replace H := H.2 hc_
    clear hc_
    refine J_exit ?_
    exact (show F275_1 K X _ _ from ⟨_, hD, hP, H⟩)
  ·
   rintro e Mp ⟨M, hD, hP, H⟩
   unfold S275_1 at H
   exact (kend (pan := X)  hD (fun _ _ hb => hP.sub hb) (resOk (rs := []) (vs := []) rfl trivial) H)

/-! (*brazier/sets.Row[string, int]).Drop -/
def S279_1 (t6_ : Bool) (K : Bool → Mem → Prop) (X : List PanicEntry → Mem → Prop) : Mem → Prop :=
 K t6_
def S279_2 (t6_ : Bool) (K : Bool → Mem → Prop) (X : List PanicEntry → Mem → Prop) : Mem → Prop :=
 S279_1 t6_ K X
def S279 (t0 : Option PA) (t1 : ByteArray) (K : Bool → Mem → Prop) (X : List PanicEntry → Mem → Prop) : Mem → Prop :=
 call 206 [ptr t0, .string t1] X fun v_ M => ∃ (r1_0 : Int) (r1_1 : Bool), v_ = .tuple #[.int .i64 r1_0, .bool r1_1] ∧ ( ite' r1_1 (nn t0 fun a2 => ldL a2 fun t19_4 => both (call 331 [Sl.v t19_4, .int .i64 r1_0, .int .i64 (IntKind.wrap .i64 (r1_0 + 1))] (fun _ _ => False) fun v_ M => ∃ (r6 : Sl), v_ = Sl.v r6 ∧ ( ldL (a2.1, a2.2 + 1) fun t27_7 => call 332 [Sl.v t27_7, .int .i64 r1_0, .int .i64 (IntKind.wrap .i64 (r1_0 + 1))] (fun _ _ => False) fun v_ M => ∃ (r9 : Sl), v_ = Sl.v r9 ∧ ( st a2 (Sl.v r6) <| st (a2.1, a2.2 + 1) (Sl.v r9) <| S279_2 r1_1 K X) M) M) (ldL (a2.1, a2.2 + 1) fun t27_12 => call 331 [Sl.v t19_4, .int .i64 r1_0, .int .i64 (IntKind.wrap .i64 (r1_0 + 1))] (fun _ _ => False) fun v_ M => ∃ (r14 : Sl), v_ = Sl.v r14 ∧ ( call 332 [Sl.v t27_12, .int .i64 r1_0, .int .i64 (IntKind.wrap .i64 (r1_0 + 1))] (fun _ _ => False) fun v_ M => ∃ (r15 : Sl), v_ = Sl.v r15 ∧ ( st a2 (Sl.v r14) <| st (a2.1, a2.2 + 1) (Sl.v r15) <| S279_2 r1_1 K X) M) M)) (S279_1 r1_1 K X)) M
abbrev F279_2 (K : Bool → Mem → Prop) (X : List PanicEntry → Mem → Prop) (e : Env) (Mp : Mem) : Prop := ∃ (t6_ : Bool) (M : Mem), e.D = [] ∧ e.v 6 = .bool t6_ ∧ Pv M [] Mp ∧ S279_2 t6_ K X M
abbrev F279_1 (K : Bool → Mem → Prop) (X : List PanicEntry → Mem → Prop) (e : Env) (Mp : Mem) : Prop := ∃ (t6_ : Bool) (M : Mem), e.D = [] ∧ e.v 6 = .bool t6_ ∧ Pv M [] Mp ∧ S279_1 t6_ K X M
theorem br279 {t0 : Option PA} {t1 : ByteArray} {K : Bool → Mem → Prop} {X : List PanicEntry → Mem → Prop} {M : Mem} (H : S279 t0 t1 K X M) :
  Spec Tryz.prog 279 #[ptr t0, .string t1] M (fun v_ M => ∃ (r0 : Bool), v_ = .bool r0 ∧ K r0 M) X := by
 refine spec_of_J (args := [ptr t0, .string t1]) Tryz.func279 rfl Tryz.ntmps279 (Nat.le_of_ble_eq_true rfl) ?_
 have hD : (⟨fun i => ([ptr t0, .string t1] : List Value).getD i undef, []⟩ : Env).D = [] := rfl
 have hP := Pv.nil M
 have hX := @kx_of Tryz.prog Tryz.f279 (fun v_ M => ∃ (r0 : Bool), v_ = .bool r0 ∧ K r0 M) X
 unfold S279 at H
 refine J_seq ?_
 refine J_region (by decide) ?_
 refine JO_assign (v := .bool false) rfl ?_
 refine JO_nil ?_
 refine J_seq ?_
 refine J_region (by decide) ?_
 refine JO_move (v := ptr t0) rfl ?_
 refine JO_move (v := .string t1) rfl ?_
 refine JO_call Tryz.call206 (vs := [ptr t0, .string t1]) (mc rfl (mc rfl mn)) ((hP.spec H).mono ?_ (fun ch Mp h => hX hD h))
 rintro v Mp ⟨M, hP, r1_0, r1_1, rfl, H⟩
 refine JO_move (v := .tuple #[.int .i64 r1_0, .bool r1_1]) rfl ?_
 refine JO_extract (vs := #[.int .i64 r1_0, .bool r1_1]) (v := .int .i64 r1_0) rfl rfl ?_
 refine JO_extract (vs := #[.int .i64 r1_0, .bool r1_1]) (v := .bool r1_1) rfl rfl ?_
 refine JO_assign (v := .int .i64 r1_0) rfl ?_
 refine JO_assign (v := .bool r1_1) rfl ?_
 refine JO_nil ?_
 refine J_seqF (F279_1 K X) ?_ ?_
 ·
  refine J_seq ?_
  refine J_region (by decide) ?_
  refine JO_move (v := .bool r1_1) rfl ?_
  refine JO_nil ?_
  refine J_cond (t := r1_1) rfl (fun hc_ => ?_) (fun hc_ => ?_)
  ·
   replace H := H.1 hc_
   clear hc_
   refine J_mid (F279_2 K X) ?_ ?_
   ·
    refine J_draw [0, 0, 0, 0, 0, 1, 0, 0, 0, 3, 0, 0, 0, 1, 0, 0, 0, 3, 0, 0, 3, 0, 0, 3] (.cho 0 (.cho 1 (.cho 2 (.cho 3 (.cho 4 (.cho 6 (.cho 7 (.cho 8 (.cho 10 (.cho 11 (.cho 12 (.cho 14 (.cho 15 (.cho 16 (.cho 5 (.cho 9 (.cho 13 (.cho 17 (.cho 18 (.cho 19 (.cho 20 (.cho 21 (.cho 22 (.cho 23 .done .none) .none) .none) .none) .none) .none) .none) .none) (.cho 13 (.cho 9 (.cho 17 (.cho 18 (.cho 19 (.cho 20 (.cho 21 (.cho 22 (.cho 23 .done .none) .none) .none) .none) .none) .none) .none) .none) .none)) .none) .none) .none) .none) .none) .none) .none) .none) .none) .none) .none) .none) .none) .none) .none) rfl (by kernel_rfl) ?_
    refine JE_one ?_
    refine ST0 (fun _ h => by cases h) (fun w => OV_move (v := ptr t0) rfl w) ?_
    refine JE_one ?_
    refine ST0 (fun _ h => by cases h) (fun w => OV_move (v := ptr t0) rfl w) ?_
    refine JE_one ?_
    refine ST0 (fun _ h => by cases h) (fun w => OV_move (v := ptr t0) rfl w) ?_
    refine JE_one ?_
    obtain ⟨a2, g3, H⟩ := H
    refine ST0 (fun _ h => by cases h) (fun w => OV_nilCheck (p := a2) (by exact tr1 (rfl : _ = ptr t0) (congrArg ptr g3)) w) ?_
    refine JE_one ?_
    refine ST0 (fun _ h => by cases h) (fun w => OV_fieldAddr (p := a2) fo_111_0 rfl w) ?_
    refine JE_one ?_
    refine ST0 (fun _ h => by cases h) (fun w => OV_move (v := .int .i64 r1_0) rfl w) ?_
    refine JE_one ?_
    refine ST0 (fun _ h => by cases h) (fun w => OV_move (v := .int .i64 r1_0) rfl w) ?_
    refine JE_one ?_
    refine ST0 (fun _ h => by cases h) (fun w => OV_iop (op := .add) (k := .i64) (a := r1_0) (b := 1) rfl rfl trivial w) ?_
    refine JE_one ?_
    refine ST0 (fun _ h => by cases h) (fun w => OV_move (v := ptr t0) rfl w) ?_
    refine JE_one ?_
    refine ST0 (fun _ h => by cases h) (fun w => OV_nilCheck (p := a2) (by exact tr1 (rfl : _ = ptr t0) (congrArg ptr g3)) w) ?_
    refine JE_one ?_
    refine ST0 (fun _ h => by cases h) (fun w => OV_fieldAddr (p := a2) fo_111_1 rfl w) ?_
    refine JE_one ?_
    refine ST0 (fun _ h => by cases h) (fun w => OV_move (v := .int .i64 r1_0) rfl w) ?_
    refine JE_one ?_
    refine ST0 (fun _ h => by cases h) (fun w => OV_move (v := .int .i64 r1_0) rfl w) ?_
    refine JE_one ?_
    refine ST0 (fun _ h => by cases h) (fun w => OV_iop (op := .add) (k := .i64) (a := r1_0) (b := 1) rfl rfl trivial w) ?_
    refine JE_one ?_
    obtain ⟨t19_4, g5, H⟩ := H
    refine ST1 (fun _ h => by cases h) (fun w hs => OV_load (p := a2) (v := Sl.v t19_4) na_36 rfl (hP.cel g5) w hs) ?_
    obtain ⟨H0_, H⟩ := H
    refine JE_cho ?_ ?_
    ·
     replace H := H0_
     refine ST3 ?_
     refine JO_call Tryz.call331 (vs := [Sl.v t19_4, .int .i64 r1_0, .int .i64 (IntKind.wrap .i64 (r1_0 + 1))]) (mc rfl (mc rfl (mc rfl mn))) ((hP.spec H).mono ?_ (fun _ _ ⟨_, _, f⟩ => f.elim))
     rintro v Mp ⟨M, hP, r6, rfl, H⟩
     refine Kd_nil ?_
     refine JE_one ?_
     obtain ⟨t27_7, g8, H⟩ := H
     refine ST1 (fun _ h => by cases h) (fun w hs => OV_load (p := (a2.1, a2.2 + 1)) (v := Sl.v t27_7) na_109 rfl (hP.cel g8) w hs) ?_
     refine JE_one ?_
     refine ST3 ?_
     refine JO_call Tryz.call332 (vs := [Sl.v t27_7, .int .i64 r1_0, .int .i64 (IntKind.wrap .i64 (r1_0 + 1))]) (mc rfl (mc rfl (mc rfl mn))) ((hP.spec H).mono ?_ (fun _ _ ⟨_, _, f⟩ => f.elim))
     rintro v Mp ⟨M, hP, r9, rfl, H⟩
     refine Kd_nil ?_
     refine JE_one ?_
     refine ST0 (fun _ h => by cases h) (fun w => OV_nilCheck (p := a2) (by exact tr1 (rfl : _ = ptr t0) (congrArg ptr g3)) w) ?_
     refine JE_one ?_
     refine ST0 (fun _ h => by cases h) (fun w => OV_fieldAddr (p := a2) fo_111_0 rfl w) ?_
     refine JE_one ?_
     refine ST3 ?_
     obtain ⟨g10, H⟩ := H
     refine JO_store (p := a2) (v := Sl.v r6) sz_36 rfl rfl rfl (hP.wr g10) ?_
     replace hP := hP.sto g10 (Sl.v r6)
     refine Kd_nil ?_
     refine JE_one ?_
     refine ST0 (fun _ h => by cases h) (fun w => OV_nilCheck (p := a2) (by exact tr1 (rfl : _ = ptr t0) (congrArg ptr g3)) w) ?_
     refine JE_one ?_
     refine ST0 (fun _ h => by cases h) (fun w => OV_fieldAddr (p := a2) fo_111_1 rfl w) ?_
     refine JE_one ?_
     refine ST3 ?_
     obtain ⟨g11, H⟩ := H
     refine JO_store (p := (a2.1, a2.2 + 1)) (v := Sl.v r9) sz_109 rfl rfl rfl (hP.wr g11) ?_
     replace hP := hP.sto g11 (Sl.v r9)
     refine Kd_nil ?_
     refine JE_done ?_
     exact (show F279_2 K X _ _ from ⟨r1_1, _, hD, rfl, hP, H⟩)
    refine JE_one ?_
    obtain ⟨t27_12, g13, H⟩ := H
    refine ST1 (fun _ h => by cases h) (fun w hs => OV_load (p := (a2.1, a2.2 + 1)) (v := Sl.v t27_12) na_109 rfl (hP.cel g13) w hs) ?_
    refine JE_one ?_
    refine ST3 ?_
    refine JO_call Tryz.call331 (vs := [Sl.v t19_4, .int .i64 r1_0, .int .i64 (IntKind.wrap .i64 (r1_0 + 1))]) (mc rfl (mc rfl (mc rfl mn))) ((hP.spec H).mono ?_ (fun _ _ ⟨_, _, f⟩ => f.elim))
    rintro v Mp ⟨M, hP, r14, rfl, H⟩
    refine Kd_nil ?_
    refine JE_one ?_
    refine ST3 ?_
    refine JO_call Tryz.call332 (vs := [Sl.v t27_12, .int .i64 r1_0, .int .i64 (IntKind.wrap .i64 (r1_0 + 1))]) (mc rfl (mc rfl (mc rfl mn))) ((hP.spec H).mono ?_ (fun _ _ ⟨_, _, f⟩ => f.elim))
    rintro v Mp ⟨M, hP, r15, rfl, H⟩
    refine Kd_nil ?_
    refine JE_one ?_
    refine ST0 (fun _ h => by cases h) (fun w => OV_nilCheck (p := a2) (by exact tr1 (rfl : _ = ptr t0) (congrArg ptr g3)) w) ?_
    refine JE_one ?_
    refine ST0 (fun _ h => by cases h) (fun w => OV_fieldAddr (p := a2) fo_111_0 rfl w) ?_
    refine JE_one ?_
    refine ST3 ?_
    obtain ⟨g16, H⟩ := H
    refine JO_store (p := a2) (v := Sl.v r14) sz_36 rfl rfl rfl (hP.wr g16) ?_
    replace hP := hP.sto g16 (Sl.v r14)
    refine Kd_nil ?_
    refine JE_one ?_
    refine ST0 (fun _ h => by cases h) (fun w => OV_nilCheck (p := a2) (by exact tr1 (rfl : _ = ptr t0) (congrArg ptr g3)) w) ?_
    refine JE_one ?_
    refine ST0 (fun _ h => by cases h) (fun w => OV_fieldAddr (p := a2) fo_111_1 rfl w) ?_
    refine JE_one ?_
    refine ST3 ?_
    obtain ⟨g17, H⟩ := H
    refine JO_store (p := (a2.1, a2.2 + 1)) (v := Sl.v r15) sz_109 rfl rfl rfl (hP.wr g17) ?_
    replace hP := hP.sto g17 (Sl.v r15)
    refine Kd_nil ?_
    refine JE_done ?_
    exact (show F279_2 K X _ _ from ⟨r1_1, _, hD, rfl, hP, H⟩)
   ·
    rintro e Mp ⟨t6_, M, hD, h6, hP, H⟩
    unfold S279_2 at H
    exact (show F279_1 K X _ _ from ⟨t6_, _, hD, h6, hP, H⟩)
  ·
   replace H := H.2 hc_
   clear hc_
   refine J_skip ?_
   exact (show F279_1 K X _ _ from ⟨r1_1, _, hD, rfl, hP, H⟩)
 ·
  rintro e Mp ⟨t6_, M, hD, h6, hP, H⟩
  unfold S279_1 at H
  refine J_seq ?_
  refine J_region (by decide) ?_
  refine JO_move (v := .bool t6_) h6 ?_
  refine JO_assign (v := .bool t6_) rfl ?_
  refine JO_nil ?_
  exact J_ret (kret (pan := X)  hD (fun _ _ hb => hP.sub hb) (resOk (rs := [.tmp 4]) (vs := [.bool t6_]) rfl ⟨item_tmp rfl, trivial⟩) ⟨t6_, rfl, H⟩)

/-! slices.BinarySearch[[]string,string] -/
def S283_3 (t7_ : Int) (t8_ : Int) (t0_ : Sl) (t1_ : ByteArray) (t6_ : Int) (K : Int → Bool → Mem → Prop) (X : List PanicEntry → Mem → Prop) (next2 : (Int × Int) → Mem → Prop) : Mem → Prop :=
 next2 (t7_, t8_)
def S283_4 (t31_ : Int) (t53_ : Bool) (K : Int → Bool → Mem → Prop) (X : List PanicEntry → Mem → Prop) : Mem → Prop :=
 K t31_ t53_
def S283_5 (t31_ : Int) (t52_ : Bool) (K : Int → Bool → Mem → Prop) (X : List PanicEntry → Mem → Prop) : Mem → Prop :=
 S283_4 t31_ t52_ K X
def S283_6 (t31_ : Int) (t51_ : Bool) (K : Int → Bool → Mem → Prop) (X : List PanicEntry → Mem → Prop) : Mem → Prop :=
 S283_5 t31_ t51_ K X
def S283_1 (t0_ : Sl) (t1_ : ByteArray) (t6_ : Int) (t7_ : Int) (K : Int → Bool → Mem → Prop) (X : List PanicEntry → Mem → Prop) : Mem → Prop :=
 ite' (decide (t7_ < t6_)) (ix t0_ 1 t7_ fun p15 => ldS p15 fun t39_16 => ite' (seq t39_16 t1_) (S283_5 t7_ true K X) (ix t0_ 1 t7_ fun p23 => ldS p23 fun t46_24 => call 338 [.string t46_24] X fun v_ M => ∃ (r26 : Bool), v_ = .bool r26 ∧ ( ite' r26 (call 338 [.string t1_] X fun v_ M => ∃ (r29 : Bool), v_ = .bool r29 ∧ ( S283_6 t7_ r29 K X) M) (S283_6 t7_ false K X)) M)) (S283_4 t7_ false K X)
def S283_2b (t0_ : Sl) (t1_ : ByteArray) (t6_ : Int) (K : Int → Bool → Mem → Prop) (X : List PanicEntry → Mem → Prop) (t7_ : Int) (t8_ : Int) (next2 : (Int × Int) → Mem → Prop) : Mem → Prop :=
 ite' (decide (t7_ < t8_)) (ix t0_ 1 (IntKind.wrap .i64 (ishr .u64 (IntKind.wrap .u64 (IntKind.wrap .i64 (t7_ + t8_))) 1)) fun p5 => ldS p5 fun t25_6 => call 337 [.string t25_6, .string t1_] X fun v_ M => ∃ (r8 : Bool), v_ = .bool r8 ∧ ( ite' r8 (S283_3 (IntKind.wrap .i64 ((IntKind.wrap .i64 (ishr .u64 (IntKind.wrap .u64 (IntKind.wrap .i64 (t7_ + t8_))) 1)) + 1)) t8_ t0_ t1_ t6_ K X next2) (S283_3 t7_ (IntKind.wrap .i64 (ishr .u64 (IntKind.wrap .u64 (IntKind.wrap .i64 (t7_ + t8_))) 1)) t0_ t1_ t6_ K X next2)) M) (S283_1 t0_ t1_ t6_ t7_ K X)
def S283_2 (t0_ : Sl) (t1_ : ByteArray) (t6_ : Int) (t7_ : Int) (t8_ : Int) (K : Int → Bool → Mem → Prop) (X : List PanicEntry → Mem → Prop) : Mem → Prop :=
 Lp (fun (s_ : (Int × Int)) next2 => S283_2b t0_ t1_ t6_ K X s_.1 s_.2 next2) (t7_, t8_)
def S283 (t0 : Sl) (t1 : ByteArray) (K : Int → Bool → Mem → Prop) (X : List PanicEntry → Mem → Prop) : Mem → Prop :=
 S283_2 t0 t1 (t0.n : Int) 0 (t0.n : Int) K X
abbrev F283_3 (t0_ : Sl) (t1_ : ByteArray) (t6_ : Int) (K : Int → Bool → Mem → Prop) (X : List PanicEntry → Mem → Prop) (next2 : (Int × Int) → Mem → Prop) (e : Env) (Mp : Mem) : Prop := ∃ (t7_ : Int) (t8_ : Int) (M : Mem), e.D = [] ∧ e.v 0 = Sl.v t0_ ∧ e.v 1 = .string t1_ ∧ e.v 6 = .int .i64 t6_ ∧ e.v 7 = .int .i64 t7_ ∧ e.v 8 = .int .i64 t8_ ∧ Pv M [] Mp ∧ S283_3 t7_ t8_ t0_ t1_ t6_ K X next2 M
abbrev F283_2 (K : Int → Bool → Mem → Prop) (X : List PanicEntry → Mem → Prop) (e : Env) (Mp : Mem) : Prop := ∃ (t0_ : Sl) (t1_ : ByteArray) (t6_ : Int) (t7_ : Int) (t8_ : Int) (M : Mem), e.D = [] ∧ e.v 0 = Sl.v t0_ ∧ e.v 1 = .string t1_ ∧ e.v 6 = .int .i64 t6_ ∧ e.v 7 = .int .i64 t7_ ∧ e.v 8 = .int .i64 t8_ ∧ Pv M [] Mp ∧ S283_2 t0_ t1_ t6_ t7_ t8_ K X M
abbrev F283_6 (K : Int → Bool → Mem → Prop) (X : List PanicEntry → Mem → Prop) (e : Env) (Mp : Mem) : Prop := ∃ (t31_ : Int) (t51_ : Bool) (M : Mem), e.D = [] ∧ e.v 31 = .int .i64 t31_ ∧ e.v 35 = .bool true ∧ e.v 42 = .bool false ∧ e.v 51 = .bool t51_ ∧ Pv M [] Mp ∧ S283_6 t31_ t51_ K X M
abbrev F283_5 (K : Int → Bool → Mem → Prop) (X : List PanicEntry → Mem → Prop) (e : Env) (Mp : Mem) : Prop := ∃ (t31_ : Int) (t52_ : Bool) (M : Mem), e.D = [] ∧ e.v 31 = .int .i64 t31_ ∧ e.v 35 = .bool true ∧ e.v 52 = .bool t52_ ∧ Pv M [] Mp ∧ S283_5 t31_ t52_ K X M
abbrev F283_4 (K : Int → Bool → Mem → Prop) (X : List PanicEntry → Mem → Prop) (e : Env) (Mp : Mem) : Prop := ∃ (t31_ : Int) (t53_ : Bool) (M : Mem), e.D = [] ∧ e.v 31 = .int .i64 t31_ ∧ e.v 53 = .bool t53_ ∧ Pv M [] Mp ∧ S283_4 t31_ t53_ K X M
abbrev F283_1 (K : Int → Bool → Mem → Prop) (X : List PanicEntry → Mem → Prop) (e : Env) (Mp : Mem) : Prop := ∃ (t0_ : Sl) (t1_ : ByteArray) (t6_ : Int) (t7_ : Int) (M : Mem), e.D = [] ∧ e.v 0 = Sl.v t0_ ∧ e.v 1 = .string t1_ ∧ e.v 6 = .int .i64 t6_ ∧ e.v 7 = .int .i64 t7_ ∧ Pv M [] Mp ∧ S283_1 t0_ t1_ t6_ t7_ K X M
theorem br283 {t0 : Sl} {t1 : ByteArray} {K : Int → Bool → Mem → Prop} {X : List PanicEntry → Mem → Prop} {M : Mem} (H : S283 t0 t1 K X M) :
  Spec Tryz.prog 283 #[Sl.v t0, .string t1] M (fun v_ M => ∃ (r0 : Int) (r1 : Bool), v_ = .tuple #[.int .i64 r0, .bool r1] ∧ K r0 r1 M) X := by
 refine spec_of_J (args := [Sl.v t0, .string t1]) Tryz.func283 rfl Tryz.ntmps283 (Nat.le_of_ble_eq_true rfl) ?_
 have hD : (⟨fun i => ([Sl.v t0, .string t1] : List Value).getD i undef, []⟩ : Env).D = [] := rfl
 have hP := Pv.nil M
 have hX := @kx_of Tryz.prog Tryz.f283 (fun v_ M => ∃ (r0 : Int) (r1 : Bool), v_ = .tuple #[.int .i64 r0, .bool r1] ∧ K r0 r1 M) X
 unfold S283 at H
 refine J_seq ?_
 refine J_region (by decide) ?_
 refine JO_assign (v := .int .i64 0) rfl ?_
 refine JO_assign (v := .bool false) rfl ?_
 refine JO_nil ?_
 refine J_seq ?_
 refine J_region (by decide) ?_
 refine JO_move (v := Sl.v t0) rfl ?_
 refine JO_len (s := t0) is_36 rfl ?_
 refine JO_assign (v := .int .i64 (t0.n : Int)) rfl ?_
 refine JO_nil ?_
 refine J_seq ?_
 refine J_region (by decide) ?_
 refine JO_move (v := .int .i64 (t0.n : Int)) rfl ?_
 refine JO_assign (v := .int .i64 0) rfl ?_
 refine JO_assign (v := .int .i64 (t0.n : Int)) rfl ?_
 refine JO_nil ?_
 refine J_seq ?_
 refine J_blockF (F283_1 K X) ?_ ?_
 ·
  refine J_of (F283_2 K X) (show F283_2 K X _ _ from ⟨t0, t1, (t0.n : Int), 0, (t0.n : Int), _, hD, rfl, rfl, rfl, rfl, rfl, hP, H⟩) ?_
  rintro e Mp ⟨t0_, t1_, t6_, t7_, t8_, M, hD, h0, h1, h6, h7, h8, hP, H⟩
  unfold S283_2 at H
  refine J_loopP (σ := (Int × Int)) (body := fun (s_ : (Int × Int)) next2 => S283_2b t0_ t1_ t6_ K X s_.1 s_.2 next2) (s := (t7_, t8_)) (M := M) (fun (s_ : (Int × Int)) (e : Env) (M Mp : Mem) => e.D = [] ∧ e.v 0 = Sl.v t0_ ∧ e.v 1 = .string t1_ ∧ e.v 6 = .int .i64 t6_ ∧ e.v 7 = .int .i64 s_.1 ∧ e.v 8 = .int .i64 s_.2 ∧ Pv M [] Mp) ?_ ⟨hD, h0, h1, h6, h7, h8, hP⟩ H
  rintro next2 ⟨t7_, t8_⟩ e M Mp ⟨hD, h0, h1, h6, h7, h8, hP⟩ H
  replace H : S283_2b t0_ t1_ t6_ K X t7_ t8_ next2 M := H
  unfold S283_2b at H
  refine J_seq ?_
  refine J_seq ?_
  refine J_region (by decide) ?_
  refine JO_move (v := .int .i64 t7_) h7 ?_
  refine JO_move (v := .int .i64 t8_) h8 ?_
  refine JO_iop (op := .lss) (k := .i64) (a := t7_) (b := t8_) rfl rfl trivial ?_
  refine JO_nil ?_
  refine J_cond (t := decide (t7_ < t8_)) rfl (fun hc_ => ?_) (fun hc_ => ?_)
  ·
   replace H := H.1 hc_
   clear hc_
   refine J_skip ?_
   refine J_blockF (F283_3 t0_ t1_ t6_ K X next2) ?_ ?_
   ·
    refine J_seq ?_
    refine J_region (by decide) ?_
    refine JO_move (v := .int .i64 t7_) h7 ?_
    refine JO_move (v := .int .i64 t8_) h8 ?_
    refine JO_iop (op := .add) (k := .i64) (a := t7_) (b := t8_) rfl rfl trivial ?_
    refine JO_convI (k := .i64) (k' := .u64) (n := IntKind.wrap .i64 (t7_ + t8_)) ul_23 (tt := .int .i64) ul_3 rfl ?_
    refine JO_shift (op := .shr) (k := .u64) (a := IntKind.wrap .u64 (IntKind.wrap .i64 (t7_ + t8_))) (b := 1) (.inr rfl) rfl rfl (by decide) ?_
    refine JO_convI (k := .u64) (k' := .i64) (n := ishr .u64 (IntKind.wrap .u64 (IntKind.wrap .i64 (t7_ + t8_))) 1) ul_3 (tt := .int .u64) ul_23 rfl ?_
    refine JO_assign (v := .int .i64 (IntKind.wrap .i64 (ishr .u64 (IntKind.wrap .u64 (IntKind.wrap .i64 (t7_ + t8_))) 1))) rfl ?_
    refine JO_nil ?_
    refine J_seq ?_
    refine J_region (by decide) ?_
    refine JO_move (v := Sl.v t0_) h0 ?_
    refine JO_move (v := .int .i64 (IntKind.wrap .i64 (ishr .u64 (IntKind.wrap .u64 (IntKind.wrap .i64 (t7_ + t8_))) 1))) rfl ?_
    obtain ⟨a1, g2, g3, g4, H⟩ := H
    refine JO_indexAddr (s := t0_) (p := a1) (i := IntKind.wrap .i64 (ishr .u64 (IntKind.wrap .u64 (IntKind.wrap .i64 (t7_ + t8_))) 1)) es_36 rfl rfl g2 g3 g4 ?_
    obtain ⟨p5, hq_⟩ : ∃ q : PA, q = (a1.1, a1.2 + (IntKind.wrap .i64 (ishr .u64 (IntKind.wrap .u64 (IntKind.wrap .i64 (t7_ + t8_))) 1) : Int).toNat * 1) := ⟨_, rfl⟩; rw [← hq_] at H ⊢; clear hq_
    obtain ⟨t25_6, g7, H⟩ := H
    refine JO_load (p := p5) (v := .string t25_6) na_9 rfl (hP.cel g7) ?_
    refine JO_move (v := .string t1_) h1 ?_
    refine JO_call Tryz.call337 (vs := [.string t25_6, .string t1_]) (mc rfl (mc rfl mn)) ((hP.spec H).mono ?_ (fun ch Mp h => hX hD h))
    rintro v Mp ⟨M, hP, r8, rfl, H⟩
    refine JO_nil ?_
    refine J_cond (t := r8) rfl (fun hc_ => ?_) (fun hc_ => ?_)
    ·
     replace H := H.1 hc_
     clear hc_
     refine J_region (by decide) ?_
     refine JO_move (v := .int .i64 (IntKind.wrap .i64 (ishr .u64 (IntKind.wrap .u64 (IntKind.wrap .i64 (t7_ + t8_))) 1))) rfl ?_
     refine JO_iop (op := .add) (k := .i64) (a := IntKind.wrap .i64 (ishr .u64 (IntKind.wrap .u64 (IntKind.wrap .i64 (t7_ + t8_))) 1)) (b := 1) rfl rfl trivial ?_
     refine JO_assign (v := .int .i64 (IntKind.wrap .i64 ((IntKind.wrap .i64 (ishr .u64 (IntKind.wrap .u64 (IntKind.wrap .i64 (t7_ + t8_))) 1)) + 1))) rfl ?_
     refine JO_nil ?_
     exact (show F283_3 t0_ t1_ t6_ K X next2 _ _ from ⟨IntKind.wrap .i64 ((IntKind.wrap .i64 (ishr .u64 (IntKind.wrap .u64 (IntKind.wrap .i64 (t7_ + t8_))) 1)) + 1), t8_, _, hD, h0, h1, h6, rfl, h8, hP, H⟩)
    ·
     replace H := H.2 hc_
     clear hc_
     refine J_region (by decide) ?_
     refine JO_move (v := .int .i64 (IntKind.wrap .i64 (ishr .u64 (IntKind.wrap .u64 (IntKind.wrap .i64 (t7_ + t8_))) 1))) rfl ?_
     refine JO_assign (v := .int .i64 (IntKind.wrap .i64 (ishr .u64 (IntKind.wrap .u64 (IntKind.wrap .i64 (t7_ + t8_))) 1))) rfl ?_
     refine JO_nil ?_
     exact (show F283_3 t0_ t1_ t6_ K X next2 _ _ from ⟨t7_, IntKind.wrap .i64 (ishr .u64 (IntKind.wrap .u64 (IntKind.wrap .i64 (t7_ + t8_))) 1), _, hD, h0, h1, h6, h7, rfl, hP, H⟩)
   ·
    rintro e Mp ⟨t7_, t8_, M, hD, h0, h1, h6, h7, h8, hP, H⟩
    unfold S283_3 at H
    exact ⟨(t7_, t8_), _, ⟨hD, h0, h1, h6, h7, h8, hP⟩, H⟩
  ·
   replace H := H.2 hc_
   clear hc_
   refine J_exit ?_
   exact (show F283_1 K X _ _ from ⟨t0_, t1_, t6_, t7_, _, hD, h0, h1, h6, h7, hP, H⟩)
 ·
  rintro e Mp ⟨t0_, t1_, t6_, t7_, M, hD, h0, h1, h6, h7, hP, H⟩
  unfold S283_1 at H
  refine J_seq ?_
  refine J_region (by decide) ?_
  refine JO_move (v := .int .i64 t7_) h7 ?_
  refine JO_move (v := .int .i64 t7_) h7 ?_
  refine JO_move (v := .int .i64 t6_) h6 ?_
  refine JO_iop (op := .lss) (k := .i64) (a := t7_) (b := t6_) rfl rfl trivial ?_
  refine JO_move (v := .bool (decide (t7_ < t6_))) rfl ?_
  refine JO_cut 18 (F283_4 K X) ?_ ?_
  ·
   obtain ⟨H1, H2⟩ := H
   obtain hc_ | hc_ := ff_or_tt (decide (t7_ < t6_))
   ·
    replace H := H2 hc_
    clear H1 H2
    have hg9 := (congrArg Value.bool hc_ : Value.bool (decide (t7_ < t6_)) = Value.bool false)
    refine JO_off (s := 35) (c := false) hg9 (by decide) ?_
    refine JO_off (s := 35) (c := false) hg9 (by decide) ?_
    refine JO_off (s := 35) (c := false) hg9 (by decide) ?_
    refine JO_off (s := 35) (c := false) hg9 (by decide) ?_
    refine JO_off (s := 35) (c := false) hg9 (by decide) ?_
    refine JO_off (s := 35) (c := false) hg9 (by decide) ?_
    refine JO_off (s := 35) (c := false) hg9 (by decide) ?_
    refine JO_offU (s := 42) rfl ?_
    refine JO_offU (s := 42) rfl ?_
    refine JO_offU (s := 42) rfl ?_
    refine JO_offU (s := 42) rfl ?_
    refine JO_offU (s := 42) rfl ?_
    refine JO_offU (s := 42) rfl ?_
    refine JO_offU (s := 48) rfl ?_
    refine JO_offU (s := 48) rfl ?_
    refine JO_offU (s := 42) rfl ?_
    refine JO_off (s := 35) (c := false) hg9 (by decide) ?_
    refine JO_pick (b := false) (v := .bool false) hg9 rfl ?_
    refine JO_nil ?_
    exact (show F283_4 K X _ _ from ⟨t7_, false, _, hD, rfl, rfl, hP, H⟩)
   ·
    replace H := H1 hc_
    clear H1 H2
    have hg10 := (congrArg Value.bool hc_ : Value.bool (decide (t7_ < t6_)) = Value.bool true)
    refine JO_on (s := 35) hg10 ?_
    refine JO_move (v := Sl.v t0_) h0 ?_
    refine JO_on (s := 35) hg10 ?_
    refine JO_move (v := .int .i64 t7_) h7 ?_
    refine JO_on (s := 35) hg10 ?_
    obtain ⟨a11, g12, g13, g14, H⟩ := H
    refine JO_indexAddr (s := t0_) (p := a11) (i := t7_) es_36 rfl rfl g12 g13 g14 ?_
    obtain ⟨p15, hq_⟩ : ∃ q : PA, q = (a11.1, a11.2 + (t7_ : Int).toNat * 1) := ⟨_, rfl⟩; rw [← hq_] at H ⊢; clear hq_
    refine JO_on (s := 35) hg10 ?_
    obtain ⟨t39_16, g17, H⟩ := H
    refine JO_load (p := p15) (v := .string t39_16) na_9 rfl (hP.cel g17) ?_
    refine JO_on (s := 35) hg10 ?_
    refine JO_move (v := .string t1_) h1 ?_
    refine JO_on (s := 35) hg10 ?_
    refine JO_scmp (op := .eql) (a := t39_16) (b := t1_) (v := .bool (seq t39_16 t1_)) rfl rfl rfl ?_
    refine JO_on (s := 35) hg10 ?_
    refine JO_move (v := .bool (seq t39_16 t1_)) rfl ?_
    refine JO_cut 10 (F283_5 K X) ?_ ?_
    ·
     obtain ⟨H1, H2⟩ := H
     obtain hc_ | hc_ := ff_or_tt (seq t39_16 t1_)
     ·
      replace H := H2 hc_
      clear H1 H2
      have hg18 := (congrArg Value.bool hc_ : Value.bool (seq t39_16 t1_) = Value.bool false)
      refine JO_on (s := 42) hg18 ?_
      refine JO_move (v := Sl.v t0_) h0 ?_
      refine JO_on (s := 42) hg18 ?_
      refine JO_move (v := .int .i64 t7_) h7 ?_
      refine JO_on (s := 42) hg18 ?_
      obtain ⟨a19, g20, g21, g22, H⟩ := H
      refine JO_indexAddr (s := t0_) (p := a19) (i := t7_) es_36 rfl rfl g20 g21 g22 ?_
      obtain ⟨p23, hq_⟩ : ∃ q : PA, q = (a19.1, a19.2 + (t7_ : Int).toNat * 1) := ⟨_, rfl⟩; rw [← hq_] at H ⊢; clear hq_
      refine JO_on (s := 42) hg18 ?_
      obtain ⟨t46_24, g25, H⟩ := H
      refine JO_load (p := p23) (v := .string t46_24) na_9 rfl (hP.cel g25) ?_
      refine JO_on (s := 42) hg18 ?_
      refine JO_call Tryz.call338 (vs := [.string t46_24]) (mc rfl mn) ((hP.spec H).mono ?_ (fun ch Mp h => hX hD h))
      rintro v Mp ⟨M, hP, r26, rfl, H⟩
      refine JO_on (s := 42) hg18 ?_
      refine JO_move (v := .bool r26) rfl ?_
      refine JO_cut 3 (F283_6 K X) ?_ ?_
      ·
       obtain ⟨H1, H2⟩ := H
       obtain hc_ | hc_ := ff_or_tt r26
       ·
        replace H := H2 hc_
        clear H1 H2
        have hg27 := (congrArg Value.bool hc_ : Value.bool r26 = Value.bool false)
        refine JO_off (s := 48) (c := false) hg27 (by decide) ?_
        refine JO_off (s := 48) (c := false) hg27 (by decide) ?_
        refine JO_on (s := 42) hg18 ?_
        refine JO_pick (b := false) (v := .bool false) hg27 rfl ?_
        refine JO_nil ?_
        exact (show F283_6 K X _ _ from ⟨t7_, false, _, hD, rfl, hg10, hg18, rfl, hP, H⟩)
       ·
        replace H := H1 hc_
        clear H1 H2
        have hg28 := (congrArg Value.bool hc_ : Value.bool r26 = Value.bool true)
        refine JO_on (s := 48) hg28 ?_
        refine JO_move (v := .string t1_) h1 ?_
        refine JO_on (s := 48) hg28 ?_
        refine JO_call Tryz.call338 (vs := [.string t1_]) (mc rfl mn) ((hP.spec H).mono ?_ (fun ch Mp h => hX hD h))
        rintro v Mp ⟨M, hP, r29, rfl, H⟩
        refine JO_on (s := 42) hg18 ?_
        refine JO_pick (b := true) (v := .bool r29) hg28 rfl ?_
        refine JO_nil ?_
        exact (show F283_6 K X _ _ from ⟨t7_, r29, _, hD, rfl, hg10, hg18, rfl, hP, H⟩)
      ·
       rintro e Mp ⟨t31_, t51_, M, hD, h31, h35, h42, h51, hP, H⟩
       unfold S283_6 at H
       refine JO_on (s := 35) h35 ?_
       refine JO_pick (b := false) (v := .bool t51_) h42 h51 ?_
       refine JO_nil ?_
       exact (show F283_5 K X _ _ from ⟨t31_, t51_, _, hD, h31, h35, rfl, hP, H⟩)
     ·
      replace H := H1 hc_
      clear H1 H2
      have hg30 := (congrArg Value.bool hc_ : Value.bool (seq t39_16 t1_) = Value.bool true)
      refine JO_off (s := 42) (c := true) hg30 (by decide) ?_
      refine JO_off (s := 42) (c := true) hg30 (by decide) ?_
      refine JO_off (s := 42) (c := true) hg30 (by decide) ?_
      refine JO_off (s := 42) (c := true) hg30 (by decide) ?_
      refine JO_off (s := 42) (c := true) hg30 (by decide) ?_
      refine JO_off (s := 42) (c := true) hg30 (by decide) ?_
      refine JO_offU (s := 48) rfl ?_
      refine JO_offU (s := 48) rfl ?_
      refine JO_off (s := 42) (c := true) hg30 (by decide) ?_
      refine JO_on (s := 35) hg10 ?_
      refine JO_pick (b := true) (v := .bool true) hg30 rfl ?_
      refine JO_nil ?_
      exact (show F283_5 K X _ _ from ⟨t7_, true, _, hD, rfl, hg10, rfl, hP, H⟩)
    ·
     rintro e Mp ⟨t31_, t52_, M, hD, h31, h35, h52, hP, H⟩
     unfold S283_5 at H
     refine JO_pick (b := true) (v := .bool t52_) h35 h52 ?_
     refine JO_nil ?_
     exact (show F283_4 K X _ _ from ⟨t31_, t52_, _, hD, h31, rfl, hP, H⟩)
  ·
   rintro e Mp ⟨t31_, t53_, M, hD, h31, h53, hP, H⟩
   unfold S283_4 at H
   refine JO_assign (v := .int .i64 t31_) h31 ?_
   refine JO_assign (v := .bool t53_) h53 ?_
   refine JO_nil ?_
   exact J_ret (kret (pan := X)  hD (fun _ _ hb => hP.sub hb) (resOk (rs := [.tmp 4, .tmp 5]) (vs := [.int .i64 t31_, .bool t53_]) rfl ⟨item_tmp rfl, item_tmp rfl, trivial⟩) ⟨t31_, t53_, rfl, H⟩)

/-! (*brazier/digest.Hash).Sum -/
def S329_6 (a2_ : PA) (K : List Value → Mem → Prop) (X : List PanicEntry → Mem → Prop) : Mem → Prop :=
 ldA 32 a2_ fun xs55 => stA 32 a2_ xs55 <| ldA 32 a2_ fun xs61 => K xs61
def S329_7b (a2_ : PA) (t65_0 : Int) (t65_1 : Int) (t65_2 : Int) (t65_3 : Int) (t65_4 : Int) (t65_5 : Int) (t65_6 : Int) (t65_7 : Int) (K : List Value → Mem → Prop) (X : List PanicEntry → Mem → Prop) (t66_ : Int) (next7 : Int → Mem → Prop) : Mem → Prop :=
 ite' (decide (t66_ < 8)) (idx 8 [.int .u32 t65_0, .int .u32 t65_1, .int .u32 t65_2, .int .u32 t65_3, .int .u32 t65_4, .int .u32 t65_5, .int .u32 t65_6, .int .u32 t65_7] t66_ fun v_ M => ∃ x35 : Int, v_ = .int .u32 x35 ∧ ( ixA a2_ 32 1 (IntKind.wrap .i64 (4 * t66_)) fun p41 => st p41 (.int .u8 (IntKind.wrap .u8 (ishr .u32 x35 24))) <| ixA a2_ 32 1 (IntKind.wrap .i64 ((IntKind.wrap .i64 (4 * t66_)) + 1)) fun p45 => st p45 (.int .u8 (IntKind.wrap .u8 (ishr .u32 x35 16))) <| ixA a2_ 32 1 (IntKind.wrap .i64 ((IntKind.wrap .i64 (4 * t66_)) + 2)) fun p49 => st p49 (.int .u8 (IntKind.wrap .u8 (ishr .u32 x35 8))) <| ixA a2_ 32 1 (IntKind.wrap .i64 ((IntKind.wrap .i64 (4 * t66_)) + 3)) fun p53 => st p53 (.int .u8 (IntKind.wrap .u8 x35)) <| next7 (IntKind.wrap .i64 (t66_ + 1))) M) (S329_6 a2_ K X)
def S329_7 (a2_ : PA) (t65_0 : Int) (t65_1 : Int) (t65_2 : Int) (t65_3 : Int) (t65_4 : Int) (t65_5 : Int) (t65_6 : Int) (t65_7 : Int) (t66_ : Int) (K : List Value → Mem → Prop) (X : List PanicEntry → Mem → Prop) : Mem → Prop :=
 Lp (fun (s_ : Int) next7 => S329_7b a2_ t65_0 t65_1 t65_2 t65_3 t65_4 t65_5 t65_6 t65_7 K X s_ next7) t66_
def S329_4 (t0_ : Option PA) (a2_ : PA) (t3_ : Sl) (K : List Value → Mem → Prop) (X : List PanicEntry → Mem → Prop) : Mem → Prop :=
 nn t0_ fun a23 => ldI .u32 (a23.1, a23.2) fun t60_0 => ldI .u32 (a23.1, a23.2 + 1) fun t60_1 => ldI .u32 (a23.1, a23.2 + 2) fun t60_2 => ldI .u32 (a23.1, a23.2 + 3) fun t60_3 => ldI .u32 (a23.1, a23.2 + 4) fun t60_4 => ldI .u32 (a23.1, a23.2 + 5) fun t60_5 => ldI .u32 (a23.1, a23.2 + 6) fun t60_6 => ldI .u32 (a23.1, a23.2 + 7) fun t60_7 => call 364 [.agg #[.int .u32 t60_0, .int .u32 t60_1, .int .u32 t60_2, .int .u32 t60_3, .int .u32 t60_4, .int .u32 t60_5, .int .u32 t60_6, .int .u32 t60_7], Sl.v t3_] X fun v_ M => ∃ (r33_0_0 : Int) (r33_0_1 : Int) (r33_0_2 : Int) (r33_0_3 : Int) (r33_0_4 : Int) (r33_0_5 : Int) (r33_0_6 : Int) (r33_0_7 : Int) (r33_1 : Sl), v_ = .tuple #[.agg #[.int .u32 r33_0_0, .int .u32 r33_0_1, .int .u32 r33_0_2, .int .u32 r33_0_3, .int .u32 r33_0_4, .int .u32 r33_0_5, .int .u32 r33_0_6, .int .u32 r33_0_7], Sl.v r33_1] ∧ ( S329_7 a2_ r33_0_0 r33_0_1 r33_0_2 r33_0_3 r33_0_4 r33_0_5 r33_0_6 r33_0_7 0 K X) M
def S329_5b (t0_ : Option PA) (a2_ : PA) (t4_ : Int) (K : List Value → Mem → Prop) (X : List PanicEntry → Mem → Prop) (t3_ : Sl) (t43_ : Int) (next5 : (Sl × Int) → Mem → Prop) : Mem → Prop :=
 ite' (decide (t43_ < 8)) (must (0 ≤ (IntKind.wrap .i64 (56 - (IntKind.wrap .i64 (8 * t43_))))) <| new (.cells #[.int .u8 (IntKind.wrap .u8 (ishr .u64 t4_ (IntKind.wrap .i64 (56 - (IntKind.wrap .i64 (8 * t43_))))))] 5 (0, 0)) fun b21 => appS 5 1 1 [.int .u8 0] t3_ (⟨some (b21, 0), 1, 1⟩ : Sl) fun x22 => next5 (x22, IntKind.wrap .i64 (t43_ + 1))) (S329_4 t0_ a2_ t3_ K X)
def S329_5 (t0_ : Option PA) (a2_ : PA) (t3_ : Sl) (t4_ : Int) (t43_ : Int) (K : List Value → Mem → Prop) (X : List PanicEntry → Mem → Prop) : Mem → Prop :=
 Lp (fun (s_ : (Sl × Int)) next5 => S329_5b t0_ a2_ t4_ K X s_.1 s_.2 next5) (t3_, t43_)
def S329_2 (t0_ : Option PA) (a2_ : PA) (t3_ : Sl) (K : List Value → Mem → Prop) (X : List PanicEntry → Mem → Prop) : Mem → Prop :=
 nn t0_ fun a16 => ldI .i64 (a16.1, a16.2 + 9) fun t40_18 => S329_5 t0_ a2_ t3_ (IntKind.wrap .u64 (8 * (IntKind.wrap .u64 t40_18))) 0 K X
def S329_3b (t0_ : Option PA) (a2_ : PA) (K : List Value → Mem → Prop) (X : List PanicEntry → Mem → Prop) (t3_ : Sl) (next3 : Sl → Mem → Prop) : Mem → Prop :=
 ite' ((Int.tmod (t3_.n : Int) 64) != 56) (new (.cells #[.int .u8 0] 5 (0, 0)) fun b14 => appS 5 1 1 [.int .u8 0] t3_ (⟨some (b14, 0), 1, 1⟩ : Sl) fun x15 => next3 x15) (S329_2 t0_ a2_ t3_ K X)
def S329_3 (t0_ : Option PA) (a2_ : PA) (t3_ : Sl) (K : List Value → Mem → Prop) (X : List PanicEntry → Mem → Prop) : Mem → Prop :=
 Lp (fun (s_ : Sl) next3 => S329_3b t0_ a2_ K X s_ next3) t3_
def S329_1 (t0_ : Option PA) (a2_ : PA) (K : List Value → Mem → Prop) (X : List PanicEntry → Mem → Prop) : Mem → Prop :=
 nn t0_ fun a3 => ldL (a3.1, a3.2 + 8) fun t16_5 => ldL (a3.1, a3.2 + 8) fun t20_7 => ldL (a3.1, a3.2 + 8) fun t25_9 => must (0 ≤ (0 : Int) ∧ (0 : Int) ≤ (t20_7.n : Int) ∧ (t20_7.n : Int) ≤ (t25_9.n : Int) ∧ (t25_9.n : Int) ≤ (t16_5.c : Int)) <| new (.cells #[.int .u8 128] 5 (0, 0)) fun b12 => appS 5 1 1 [.int .u8 0] (Sl.cut t16_5 1 (0 : Int) (t20_7.n : Int) (t25_9.n : Int)) (⟨some (b12, 0), 1, 1⟩ : Sl) fun x13 => S329_3 t0_ a2_ x13 K X
def S329 (t0 : Option PA) (K : List Value → Mem → Prop) (X : List PanicEntry → Mem → Prop) : Mem → Prop :=
 new (.cells (List.replicate 32 (.int .u8 0)).toArray 373 (0, 0)) fun b1 => ite' t0.isNone (call 327 [] X fun v_ M => ∃ (r2 : Option PA), v_ = ptr r2 ∧ ( S329_1 r2 (b1, 0) K X) M) (S329_1 t0 (b1, 0) K X)
abbrev F329_3 (K : List Value → Mem → Prop) (X : List PanicEntry → Mem → Prop) (e : Env) (Mp : Mem) : Prop := ∃ (t0_ : Option PA) (a2_ : PA) (t3_ : Sl) (M : Mem), e.D = [] ∧ e.v 0 = ptr t0_ ∧ e.v 2 = ptr (some a2_) ∧ e.v 3 = Sl.v t3_ ∧ Pv M [] Mp ∧ S329_3 t0_ a2_ t3_ K X M
abbrev F329_5 (K : List Value → Mem → Prop) (X : List PanicEntry → Mem → Prop) (e : Env) (Mp : Mem) : Prop := ∃ (t0_ : Option PA) (a2_ : PA) (t3_ : Sl) (t4_ : Int) (t43_ : Int) (M : Mem), e.D = [] ∧ e.v 0 = ptr t0_ ∧ e.v 2 = ptr (some a2_) ∧ e.v 3 = Sl.v t3_ ∧ e.v 4 = .int .u64 t4_ ∧ e.v 43 = .int .i64 t43_ ∧ Pv M [] Mp ∧ S329_5 t0_ a2_ t3_ t4_ t43_ K X M
abbrev F329_7 (K : List Value → Mem → Prop) (X : List PanicEntry → Mem → Prop) (e : Env) (Mp : Mem) : Prop := ∃ (a2_ : PA) (t65_0 : Int) (t65_1 : Int) (t65_2 : Int) (t65_3 : Int) (t65_4 : Int) (t65_5 : Int) (t65_6 : Int) (t65_7 : Int) (t66_ : Int) (M : Mem), e.D = [] ∧ e.v 2 = ptr (some a2_) ∧ e.v 65 = .agg #[.int .u32 t65_0, .int .u32 t65_1, .int .u32 t65_2, .int .u32 t65_3, .int .u32 t65_4, .int .u32 t65_5, .int .u32 t65_6, .int .u32 t65_7] ∧ e.v 66 = .int .i64 t66_ ∧ Pv M [] Mp ∧ S329_7 a2_ t65_0 t65_1 t65_2 t65_3 t65_4 t65_5 t65_6 t65_7 t66_ K X M
abbrev F329_6 (K : List Value → Mem → Prop) (X : List PanicEntry → Mem → Prop) (e : Env) (Mp : Mem) : Prop := ∃ (a2_ : PA) (M : Mem), e.D = [] ∧ e.v 2 = ptr (some a2_) ∧ Pv M [] Mp ∧ S329_6 a2_ K X M
abbrev F329_4 (K : List Value → Mem → Prop) (X : List PanicEntry → Mem → Prop) (e : Env) (Mp : Mem) : Prop := ∃ (t0_ : Option PA) (a2_ : PA) (t3_ : Sl) (M : Mem), e.D = [] ∧ e.v 0 = ptr t0_ ∧ e.v 2 = ptr (some a2_) ∧ e.v 3 = Sl.v t3_ ∧ Pv M [] Mp ∧ S329_4 t0_ a2_ t3_ K X M
abbrev F329_2 (K : List Value → Mem → Prop) (X : List PanicEntry → Mem → Prop) (e : Env) (Mp : Mem) : Prop := ∃ (t0_ : Option PA) (a2_ : PA) (t3_ : Sl) (M : Mem), e.D = [] ∧ e.v 0 = ptr t0_ ∧ e.v 2 = ptr (some a2_) ∧ e.v 3 = Sl.v t3_ ∧ Pv M [] Mp ∧ S329_2 t0_ a2_ t3_ K X M
abbrev F329_1 (K : List Value → Mem → Prop) (X : List PanicEntry → Mem → Prop) (e : Env) (Mp : Mem) : Prop := ∃ (t0_ : Option PA) (a2_ : PA) (M : Mem), e.D = [] ∧ e.v 0 = ptr t0_ ∧ e.v 2 = ptr (some a2_) ∧ Pv M [] Mp ∧ S329_1 t0_ a2_ K X M
theorem br329 {t0 : Option PA} {K : List Value → Mem → Prop} {X : List PanicEntry → Mem → Prop} {M : Mem} (H : S329 t0 K X M) :
  Spec Tryz.prog 329 #[ptr t0] M (fun v_ M => ∃ (r0 : List Value), v_ = .agg r0.toArray ∧ K r0 M) X := by
 refine spec_of_J (args := [ptr t0]) Tryz.func329 rfl Tryz.ntmps329 (Nat.le_of_ble_eq_true rfl) ?_
 have hD : (⟨fun i => ([ptr t0] : List Value).getD i undef, []⟩ : Env).D = [] := rfl
 have hP := Pv.nil M
 have hX := @kx_of Tryz.prog Tryz.f329 (fun v_ M => ∃ (r0 : List Value), v_ = .agg r0.toArray ∧ K r0 M) X
 unfold S329 at H
 refine J_seq ?_
 refine J_region (by decide) ?_
 refine JO_alloc (cs := List.replicate 32 (.int .u8 0)) zc_373 ?_
 intro b1 hb
 replace H := H b1 (hP.out hb).1
 replace hP := hP.new hb (.cells (List.replicate 32 (.int .u8 0)).toArray 373 (0, 0))
 refine JO_nil ?_
 refine J_seqF (F329_1 K X) ?_ ?_
 ·
  refine J_seq ?_
  refine J_region (by decide) ?_
  refine JO_move (v := ptr t0) rfl ?_
  refine JO_eqlNil (p := t0) ip_405 rfl rfl ?_
  refine JO_nil ?_
  refine J_cond (t := t0.isNone) rfl (fun hc_ => ?_) (fun hc_ => ?_)
  ·
   replace H := H.1 hc_
   clear hc_
   refine J_region (by decide) ?_
   refine JO_call Tryz.call327 (vs := []) mn ((hP.spec H).mono ?_ (fun ch Mp h => hX hD h))
   rintro v Mp ⟨M, hP, r2, rfl, H⟩
   refine JO_assign (v := ptr r2) rfl ?_
   refine JO_nil ?_
   exact (show F329_1 K X _ _ from ⟨r2, (b1, 0), _, hD, rfl, rfl, hP, H⟩)
  ·
   replace H := H.2 hc_
   clear hc_
   refine J_skip ?_
   exact (show F329_1 K X _ _ from ⟨t0, (b1, 0), _, hD, rfl, rfl, hP, H⟩)
 ·
  rintro e Mp ⟨t0_, a2_, M, hD, h0, h2, hP, H⟩
  unfold S329_1 at H
  refine J_seq ?_
  refine J_draw [0, 0, 0, 1, 0, 0, 0, 1, 0, 0, 0, 0, 1, 0, 0, 2, 3, 0] (.cho 0 (.cho 1 (.cho 2 (.cho 4 (.cho 5 (.cho 6 (.cho 9 (.cho 10 (.cho 11 (.cho 3 (.cho 7 (.cho 8 (.cho 12 (.cho 13 (.cho 14 (.cho 15 (.cho 16 (.cho 17 .done .none) .none) .none) .none) .none) .none) .none) .none) .none) .none) .none) .none) .none) .none) .none) .none) .none) .none) rfl (by kernel_rfl) ?_
  refine JE_one ?_
  refine ST0 (fun _ h => by cases h) (fun w => OV_move (v := ptr t0_) (by exact h0) w) ?_
  refine JE_one ?_
  obtain ⟨a3, g4, H⟩ := H
  refine ST0 (fun _ h => by cases h) (fun w => OV_nilCheck (p := a3) (by exact tr1 (rfl : _ = ptr t0_) (congrArg ptr g4)) w) ?_
  refine JE_one ?_
  refine ST0 (fun _ h => by cases h) (fun w => OV_fieldAddr (p := a3) fo_434_1 rfl w) ?_
  refine JE_one ?_
  refine ST0 (fun _ h => by cases h) (fun w => OV_move (v := ptr t0_) (by exact h0) w) ?_
  refine JE_one ?_
  refine ST0 (fun _ h => by cases h) (fun w => OV_nilCheck (p := a3) (by exact tr1 (rfl : _ = ptr t0_) (congrArg ptr g4)) w) ?_
  refine JE_one ?_
  refine ST0 (fun _ h => by cases h) (fun w => OV_fieldAddr (p := a3) fo_434_1 rfl w) ?_
  refine JE_one ?_
  refine ST0 (fun _ h => by cases h) (fun w => OV_move (v := ptr t0_) (by exact h0) w) ?_
  refine JE_one ?_
  refine ST0 (fun _ h => by cases h) (fun w => OV_nilCheck (p := a3) (by exact tr1 (rfl : _ = ptr t0_) (congrArg ptr g4)) w) ?_
  refine JE_one ?_
  refine ST0 (fun _ h => by cases h) (fun w => OV_fieldAddr (p := a3) fo_434_1 rfl w) ?_
  refine JE_one ?_
  obtain ⟨t16_5, g6, H⟩ := H
  refine ST1 (fun _ h => by cases h) (fun w hs => OV_load (p := (a3.1, a3.2 + 8)) (v := Sl.v t16_5) na_32 rfl (hP.cel g6) w hs) ?_
  refine JE_one ?_
  obtain ⟨t20_7, g8, H⟩ := H
  refine ST1 (fun _ h => by cases h) (fun w hs => OV_load (p := (a3.1, a3.2 + 8)) (v := Sl.v t20_7) na_32 rfl (hP.cel g8) w hs) ?_
  refine JE_one ?_
  refine ST0 (fun _ h => by cases h) (fun w => OV_len (s := t20_7) is_32 rfl w) ?_
  refine JE_one ?_
  obtain ⟨t25_9, g10, H⟩ := H
  refine ST1 (fun _ h => by cases h) (fun w hs => OV_load (p := (a3.1, a3.2 + 8)) (v := Sl.v t25_9) na_32 rfl (hP.cel g10) w hs) ?_
  refine JE_one ?_
  refine ST0 (fun _ h => by cases h) (fun w => OV_len (s := t25_9) is_32 rfl w) ?_
  refine JE_one ?_
  obtain ⟨g11, H⟩ := H
  refine ST0 (fun _ h => by cases h) (fun w => OV_slice (s := t16_5) (l := (0 : Int)) (h := (t20_7.n : Int)) (m := (t25_9.n : Int)) es_32 rfl (by exact ⟨_, rfl⟩) (by exact ⟨_, rfl⟩) (by exact rfl) g11.1 g11.2.1 (fun _ => g11.2.2.1) g11.2.2.2 (by simp) w) ?_
  refine JE_one ?_
  refine ST2 (val := fun b => Sl.v ⟨some (b, 0), 1, 1⟩) (fun _ h => by cases h) (fun w => OA_bsl (vs := [(0, .int .u8 128)]) (cs := [.int .u8 128]) (c0 := [.int .u8 0]) ul_32 sz_5 zc_5 (by kernel_rfl) (by decide) (by decide) (mpc rfl mpn) rfl w) ?_
  intro b12 hb
  replace H := H b12 (hP.out hb).1
  replace hP := hP.new hb (.cells #[.int .u8 128] 5 (0, 0))
  refine JE_one ?_
  refine ST3 ?_
  refine JO_loud ((hP.opJ (OpJ_app (s := Sl.cut t16_5 1 (0 : Int) (t20_7.n : Int) (t25_9.n : Int)) (z := (⟨some (b12, 0), 1, 1⟩ : Sl)) ul_32 sb_5 zc_5 rfl rfl H)).mono (fun _ _ h => h) (fun _ _ ⟨_, _, f⟩ => f.elim)) ?_
  rintro _ Mp ⟨M, hP, x13, rfl, H⟩
  refine Kd_nil ?_
  refine JE_one ?_
  refine ST0 (fun _ h => by cases h) (fun w => OV_assign (v := Sl.v x13) rfl w) ?_
  refine JE_done ?_
  refine J_seq ?_
  refine J_blockF (F329_2 K X) ?_ ?_
  ·
   refine J_of (F329_3 K X) (show F329_3 K X _ _ from ⟨t0_, a2_, x13, _, hD, h0, h2, rfl, hP, H⟩) ?_
   rintro e Mp ⟨t0_, a2_, t3_, M, hD, h0, h2, h3, hP, H⟩
   unfold S329_3 at H
   refine J_loopP (σ := Sl) (body := fun (s_ : Sl) next3 => S329_3b t0_ a2_ K X s_ next3) (s := t3_) (M := M) (fun (s_ : Sl) (e : Env) (M Mp : Mem) => e.D = [] ∧ e.v 0 = ptr t0_ ∧ e.v 2 = ptr (some a2_) ∧ e.v 3 = Sl.v s_ ∧ Pv M [] Mp) ?_ ⟨hD, h0, h2, h3, hP⟩ H
   rintro next3 t3_ e M Mp ⟨hD, h0, h2, h3, hP⟩ H
   replace H : S329_3b t0_ a2_ K X t3_ next3 M := H
   unfold S329_3b at H
   refine J_seq ?_
   refine J_seq ?_
   refine J_region (by decide) ?_
   refine JO_move (v := Sl.v t3_) h3 ?_
   refine JO_len (s := t3_) is_32 rfl ?_
   refine JO_iop (op := .rem) (k := .i64) (a := (t3_.n : Int)) (b := 64) rfl rfl (show (64 : Int) ≠ 0 by decide) ?_
   refine JO_iop (op := .neq) (k := .i64) (a := Int.tmod (t3_.n : Int) 64) (b := 56) rfl rfl trivial ?_
   refine JO_nil ?_
   refine J_cond (t := (Int.tmod (t3_.n : Int) 64) != 56) rfl (fun hc_ => ?_) (fun hc_ => ?_)
   ·
    replace H := H.1 hc_
    clear hc_
    refine J_skip ?_
    refine J_block ?_
    refine J_region (by decide) ?_
    refine JO_move (v := Sl.v t3_) h3 ?_
    refine JO_bsl (vs := [(0, .int .u8 0)]) (cs := [.int .u8 0]) (c0 := [.int .u8 0]) ul_32 sz_5 zc_5 (by kernel_rfl) (by decide) (by decide) (mpc rfl mpn) rfl ?_
    intro b14 hb
    replace H := H b14 (hP.out hb).1
    replace hP := hP.new hb (.cells #[.int .u8 0] 5 (0, 0))
    refine JO_loud ((hP.opJ (OpJ_app (s := t3_) (z := (⟨some (b14, 0), 1, 1⟩ : Sl)) ul_32 sb_5 zc_5 rfl rfl H)).mono (fun _ _ h => h) (fun _ _ ⟨_, _, f⟩ => f.elim)) ?_
    rintro _ Mp ⟨M, hP, x15, rfl, H⟩
    refine JO_assign (v := Sl.v x15) rfl ?_
    refine JO_nil ?_
    exact ⟨x15, _, ⟨hD, h0, h2, rfl, hP⟩, H⟩
   ·
    replace H := H.2 hc_
    clear hc_
    refine J_exit ?_
    exact (show F329_2 K X _ _ from ⟨t0_, a2_, t3_, _, hD, h0, h2, h3, hP, H⟩)
  ·
   rintro e Mp ⟨t0_, a2_, t3_, M, hD, h0, h2, h3, hP, H⟩
   unfold S329_2 at H
   refine J_seq ?_
   refine J_region (by decide) ?_
   refine JO_move (v := ptr t0_) h0 ?_
   obtain ⟨a16, g17, H⟩ := H
   refine JO_nilCheck (p := a16) (tr1 (rfl : _ = ptr t0_) (congrArg ptr g17)) ?_
   refine JO_fieldAddr (p := a16) fo_434_2 rfl ?_
   obtain ⟨t40_18, g19, H⟩ := H
   refine JO_load (p := (a16.1, a16.2 + 9)) (v := .int .i64 t40_18) na_3 rfl (hP.cel g19) ?_
   refine JO_convI (k := .i64) (k' := .u64) (n := t40_18) ul_307 (tt := .int .i64) ul_3 rfl ?_
   refine JO_iop (op := .mul) (k := .u64) (a := 8) (b := IntKind.wrap .u64 t40_18) rfl rfl trivial ?_
   refine JO_assign (v := .int .u64 (IntKind.wrap .u64 (8 * (IntKind.wrap .u64 t40_18)))) rfl ?_
   refine JO_nil ?_
   refine J_seq ?_
   refine J_seq ?_
   refine J_region (by decide) ?_
   refine JO_move (v := .int .i64 0) rfl ?_
   refine JO_nil ?_
   refine J_blockF (F329_4 K X) ?_ ?_
   ·
    refine J_of (F329_5 K X) (show F329_5 K X _ _ from ⟨t0_, a2_, t3_, IntKind.wrap .u64 (8 * (IntKind.wrap .u64 t40_18)), 0, _, hD, h0, h2, h3, rfl, rfl, hP, H⟩) ?_
    rintro e Mp ⟨t0_, a2_, t3_, t4_, t43_, M, hD, h0, h2, h3, h4, h43, hP, H⟩
    unfold S329_5 at H
    refine J_loopP (σ := (Sl × Int)) (body := fun (s_ : (Sl × Int)) next5 => S329_5b t0_ a2_ t4_ K X s_.1 s_.2 next5) (s := (t3_, t43_)) (M := M) (fun (s_ : (Sl × Int)) (e : Env) (M Mp : Mem) => e.D = [] ∧ e.v 0 = ptr t0_ ∧ e.v 2 = ptr (some a2_) ∧ e.v 3 = Sl.v s_.1 ∧ e.v 4 = .int .u64 t4_ ∧ e.v 43 = .int .i64 s_.2 ∧ Pv M [] Mp) ?_ ⟨hD, h0, h2, h3, h4, h43, hP⟩ H
    rintro next5 ⟨t3_, t43_⟩ e M Mp ⟨hD, h0, h2, h3, h4, h43, hP⟩ H
    replace H : S329_5b t0_ a2_ t4_ K X t3_ t43_ next5 M := H
    unfold S329_5b at H
    refine J_seq ?_
    refine J_region (by decide) ?_
    refine JO_iop (op := .lss) (k := .i64) (a := t43_) (b := 8) h43 rfl trivial ?_
    refine JO_nil ?_
    refine J_seq ?_
    refine J_cond (t := decide (t43_ < 8)) rfl (fun hc_ => ?_) (fun hc_ => ?_)
    ·
     replace H := H.1 hc_
     clear hc_
     refine J_skip ?_
     refine J_seq ?_
     refine J_block ?_
     refine J_seq ?_
     refine J_region (by decide) ?_
     refine JO_move (v := .int .i64 t43_) h43 ?_
     refine JO_assign (v := .int .i64 t43_) rfl ?_
     refine JO_nil ?_
     refine J_region (by decide) ?_
     refine JO_move (v := Sl.v t3_) h3 ?_
     refine JO_move (v := .int .u64 t4_) h4 ?_
     refine JO_move (v := .int .i64 t43_) rfl ?_
     refine JO_iop (op := .mul) (k := .i64) (a := 8) (b := t43_) rfl rfl trivial ?_
     refine JO_iop (op := .sub) (k := .i64) (a := 56) (b := IntKind.wrap .i64 (8 * t43_)) rfl rfl trivial ?_
     obtain ⟨g20, H⟩ := H
     refine JO_shift (op := .shr) (k := .u64) (a := t4_) (b := IntKind.wrap .i64 (56 - (IntKind.wrap .i64 (8 * t43_)))) (.inr rfl) rfl rfl g20 ?_
     refine JO_convI (k := .u64) (k' := .u8) (n := ishr .u64 t4_ (IntKind.wrap .i64 (56 - (IntKind.wrap .i64 (8 * t43_))))) ul_5 (tt := .int .u64) ul_307 rfl ?_
     refine JO_bsl (vs := [(0, .int .u8 (IntKind.wrap .u8 (ishr .u64 t4_ (IntKind.wrap .i64 (56 - (IntKind.wrap .i64 (8 * t43_)))))))]) (cs := [.int .u8 (IntKind.wrap .u8 (ishr .u64 t4_ (IntKind.wrap .i64 (56 - (IntKind.wrap .i64 (8 * t43_))))))]) (c0 := [.int .u8 0]) ul_32 sz_5 zc_5 (by kernel_rfl) (by decide) (by decide) (mpc rfl mpn) rfl ?_
     intro b21 hb
     replace H := H b21 (hP.out hb).1
     replace hP := hP.new hb (.cells #[.int .u8 (IntKind.wrap .u8 (ishr .u64 t4_ (IntKind.wrap .i64 (56 - (IntKind.wrap .i64 (8 * t43_))))))] 5 (0, 0))
     refine JO_loud ((hP.opJ (OpJ_app (s := t3_) (z := (⟨some (b21, 0), 1, 1⟩ : Sl)) ul_32 sb_5 zc_5 rfl rfl H)).mono (fun _ _ h => h) (fun _ _ ⟨_, _, f⟩ => f.elim)) ?_
     rintro _ Mp ⟨M, hP, x22, rfl, H⟩
     refine JO_assign (v := Sl.v x22) rfl ?_
     refine JO_nil ?_
     refine J_region (by decide) ?_
     refine JO_iop (op := .add) (k := .i64) (a := t43_) (b := 1) h43 rfl trivial ?_
     refine JO_move (v := .int .i64 (IntKind.wrap .i64 (t43_ + 1))) rfl ?_
     refine JO_nil ?_
     exact ⟨(x22, IntKind.wrap .i64 (t43_ + 1)), _, ⟨hD, h0, h2, rfl, h4, rfl, hP⟩, H⟩
    ·
     replace H := H.2 hc_
     clear hc_
     refine J_exit ?_
     exact (show F329_4 K X _ _ from ⟨t0_, a2_, t3_, _, hD, h0, h2, h3, hP, H⟩)
   ·
    rintro e Mp ⟨t0_, a2_, t3_, M, hD, h0, h2, h3, hP, H⟩
    unfold S329_4 at H
    refine J_seq ?_
    refine J_region (by decide) ?_
    refine JO_move (v := ptr t0_) h0 ?_
    obtain ⟨a23, g24, H⟩ := H
    refine JO_nilCheck (p := a23) (tr1 (rfl : _ = ptr t0_) (congrArg ptr g24)) ?_
    refine JO_fieldAddr (p := a23) fo_434_0 rfl ?_
    obtain ⟨t60_0, g25, H⟩ := H
    obtain ⟨t60_1, g26, H⟩ := H
    obtain ⟨t60_2, g27, H⟩ := H
    obtain ⟨t60_3, g28, H⟩ := H
    obtain ⟨t60_4, g29, H⟩ := H
    obtain ⟨t60_5, g30, H⟩ := H
    obtain ⟨t60_6, g31, H⟩ := H
    obtain ⟨t60_7, g32, H⟩ := H
    refine JO_loadAgg (p := a23) (cs := [.int .u32 t60_0, .int .u32 t60_1, .int .u32 t60_2, .int .u32 t60_3, .int .u32 t60_4, .int .u32 t60_5, .int .u32 t60_6, .int .u32 t60_7]) ag_431 (Nat.succ_pos _) rfl (cels_of (b := a23.1) (o := a23.2) ⟨hP.cel g25, hP.cel g26, hP.cel g27, hP.cel g28, hP.cel g29, hP.cel g30, hP.cel g31, hP.cel g32, trivial⟩) ?_
    refine JO_move (v := Sl.v t3_) h3 ?_
    refine JO_call Tryz.call364 (vs := [.agg #[.int .u32 t60_0, .int .u32 t60_1, .int .u32 t60_2, .int .u32 t60_3, .int .u32 t60_4, .int .u32 t60_5, .int .u32 t60_6, .int .u32 t60_7], Sl.v t3_]) (mc rfl (mc rfl mn)) ((hP.spec H).mono ?_ (fun ch Mp h => hX hD h))
    rintro v Mp ⟨M, hP, r33_0_0, r33_0_1, r33_0_2, r33_0_3, r33_0_4, r33_0_5, r33_0_6, r33_0_7, r33_1, rfl, H⟩
    refine JO_move (v := .tuple #[.agg #[.int .u32 r33_0_0, .int .u32 r33_0_1, .int .u32 r33_0_2, .int .u32 r33_0_3, .int .u32 r33_0_4, .int .u32 r33_0_5, .int .u32 r33_0_6, .int .u32 r33_0_7], Sl.v r33_1]) rfl ?_
    refine JO_extract (vs := #[.agg #[.int .u32 r33_0_0, .int .u32 r33_0_1, .int .u32 r33_0_2, .int .u32 r33_0_3, .int .u32 r33_0_4, .int .u32 r33_0_5, .int .u32 r33_0_6, .int .u32 r33_0_7], Sl.v r33_1]) (v := .agg #[.int .u32 r33_0_0, .int .u32 r33_0_1, .int .u32 r33_0_2, .int .u32 r33_0_3, .int .u32 r33_0_4, .int .u32 r33_0_5, .int .u32 r33_0_6, .int .u32 r33_0_7]) rfl rfl ?_
    refine JO_extract (vs := #[.agg #[.int .u32 r33_0_0, .int .u32 r33_0_1, .int .u32 r33_0_2, .int .u32 r33_0_3, .int .u32 r33_0_4, .int .u32 r33_0_5, .int .u32 r33_0_6, .int .u32 r33_0_7], Sl.v r33_1]) (v := Sl.v r33_1) rfl rfl ?_
    refine JO_alloc (cs := [.int .u32 0, .int .u32 0, .int .u32 0, .int .u32 0, .int .u32 0, .int .u32 0, .int .u32 0, .int .u32 0]) zc_431 ?_
    intro b34 hb
    replace hP : Pv _ [(b34, .cells #[.int .u32 0, .int .u32 0, .int .u32 0, .int .u32 0, .int .u32 0, .int .u32 0, .int .u32 0, .int .u32 0] 431 (0, 0))] _ := hP.box hb _
    refine JO_storeAgg (p := (b34, 0)) (cs := [.int .u32 r33_0_0, .int .u32 r33_0_1, .int .u32 r33_0_2, .int .u32 r33_0_3, .int .u32 r33_0_4, .int .u32 r33_0_5, .int .u32 r33_0_6, .int .u32 r33_0_7]) sz_431 rfl rfl (all_cons rfl (all_cons rfl (all_cons rfl (all_cons rfl (all_cons rfl (all_cons rfl (all_cons rfl (all_cons rfl all_nil)))))))) (fun j hj => wrOf (hP.get 0 rfl) (by simp at hj ⊢; omega) (by simp)) ?_
    replace hP : Pv _ [(b34, .cells #[.int .u32 r33_0_0, .int .u32 r33_0_1, .int .u32 r33_0_2, .int .u32 r33_0_3, .int .u32 r33_0_4, .int .u32 r33_0_5, .int .u32 r33_0_6, .int .u32 r33_0_7] 431 (0, 0))] _ := Pv.stosL (i := 0) [.int .u32 r33_0_0, .int .u32 r33_0_1, .int .u32 r33_0_2, .int .u32 r33_0_3, .int .u32 r33_0_4, .int .u32 r33_0_5, .int .u32 r33_0_6, .int .u32 r33_0_7] [.int .u32 0, .int .u32 0, .int .u32 0, .int .u32 0, .int .u32 0, .int .u32 0, .int .u32 0, .int .u32 0] 0 _ _ hP rfl
    refine JO_assign (v := Sl.v r33_1) rfl ?_
    refine JO_nil ?_
    refine J_seq ?_
    refine J_seq ?_
    refine J_region (by decide) ?_
    refine JO_loadAgg (p := (b34, 0)) (cs := [.int .u32 r33_0_0, .int .u32 r33_0_1, .int .u32 r33_0_2, .int .u32 r33_0_3, .int .u32 r33_0_4, .int .u32 r33_0_5, .int .u32 r33_0_6, .int .u32 r33_0_7]) ag_431 (Nat.succ_pos _) rfl (cels_of (b := b34) (o := 0) ⟨celOf (hP.get 0 rfl) rfl, celOf (hP.get 0 rfl) rfl, celOf (hP.get 0 rfl) rfl, celOf (hP.get 0 rfl) rfl, celOf (hP.get 0 rfl) rfl, celOf (hP.get 0 rfl) rfl, celOf (hP.get 0 rfl) rfl, celOf (hP.get 0 rfl) rfl, trivial⟩) ?_
    refine JO_move (v := .int .i64 0) rfl ?_
    refine JO_nil ?_
    refine J_blockF (F329_6 K X) ?_ ?_
    ·
     refine J_of (F329_7 K X) (show F329_7 K X _ _ from ⟨a2_, r33_0_0, r33_0_1, r33_0_2, r33_0_3, r33_0_4, r33_0_5, r33_0_6, r33_0_7, 0, _, hD, h2, rfl, rfl, (hP.drop 0), H⟩) ?_
     rintro e Mp ⟨a2_, t65_0, t65_1, t65_2, t65_3, t65_4, t65_5, t65_6, t65_7, t66_, M, hD, h2, h65, h66, hP, H⟩
     unfold S329_7 at H
     refine J_loopP (σ := Int) (body := fun (s_ : Int) next7 => S329_7b a2_ t65_0 t65_1 t65_2 t65_3 t65_4 t65_5 t65_6 t65_7 K X s_ next7) (s := t66_) (M := M) (fun (s_ : Int) (e : Env) (M Mp : Mem) => e.D = [] ∧ e.v 2 = ptr (some a2_) ∧ e.v 65 = .agg #[.int .u32 t65_0, .int .u32 t65_1, .int .u32 t65_2, .int .u32 t65_3, .int .u32 t65_4, .int .u32 t65_5, .int .u32 t65_6, .int .u32 t65_7] ∧ e.v 66 = .int .i64 s_ ∧ Pv M [] Mp) ?_ ⟨hD, h2, h65, h66, hP⟩ H
     rintro next7 t66_ e M Mp ⟨hD, h2, h65, h66, hP⟩ H
     replace H : S329_7b a2_ t65_0 t65_1 t65_2 t65_3 t65_4 t65_5 t65_6 t65_7 K X t66_ next7 M := H
     unfold S329_7b at H
     refine J_seq ?_
     refine J_region (by decide) ?_
     refine JO_iop (op := .lss) (k := .i64) (a := t66_) (b := 8) h66 rfl trivial ?_
     refine JO_nil ?_
     refine J_seq ?_
     refine J_cond (t := decide (t66_ < 8)) rfl (fun hc_ => ?_) (fun hc_ => ?_)
     ·
      replace H := H.1 hc_
      clear hc_
      refine J_skip ?_
      refine J_seq ?_
      refine J_block ?_
      refine J_seq ?_
      refine J_region (by decide) ?_
      refine JO_move (v := .int .i64 t66_) h66 ?_
      obtain ⟨_, g36, g37, g38, x35, rfl, H⟩ := H
      refine JO_idx (cs := [.int .u32 t65_0, .int .u32 t65_1, .int .u32 t65_2, .int .u32 t65_3, .int .u32 t65_4, .int .u32 t65_5, .int .u32 t65_6, .int .u32 t65_7]) (i := t66_) (v := .int .u32 x35) ul_431 na_301 sz_301 h65 h66 g36 g37 g38 ?_
      refine JO_assign (v := .int .i64 t66_) rfl ?_
      refine JO_assign (v := .int .u32 x35) rfl ?_
      refine JO_nil ?_
      refine J_region (by decide) ?_
      refine JO_move (v := .int .i64 t66_) rfl ?_
      refine JO_iop (op := .mul) (k := .i64) (a := 4) (b := t66_) rfl rfl trivial ?_
      refine JO_move (v := .int .i64 t66_) rfl ?_
      refine JO_iop (op := .mul) (k := .i64) (a := 4) (b := t66_) rfl rfl trivial ?_
      refine JO_iop (op := .add) (k := .i64) (a := IntKind.wrap .i64 (4 * t66_)) (b := 1) rfl rfl trivial ?_
      refine JO_move (v := .int .i64 t66_) rfl ?_
      refine JO_iop (op := .mul) (k := .i64) (a := 4) (b := t66_) rfl rfl trivial ?_
      refine JO_iop (op := .add) (k := .i64) (a := IntKind.wrap .i64 (4 * t66_)) (b := 2) rfl rfl trivial ?_
      refine JO_move (v := .int .i64 t66_) rfl ?_
      refine JO_iop (op := .mul) (k := .i64) (a := 4) (b := t66_) rfl rfl trivial ?_
      refine JO_iop (op := .add) (k := .i64) (a := IntKind.wrap .i64 (4 * t66_)) (b := 3) rfl rfl trivial ?_
      refine JO_move (v := .int .u32 x35) rfl ?_
      refine JO_shift (op := .shr) (k := .u32) (a := x35) (b := 24) (.inr rfl) rfl rfl (by decide) ?_
      refine JO_convI (k := .u32) (k' := .u8) (n := ishr .u32 x35 24) ul_5 (tt := .int .u32) ul_301 rfl ?_
      refine JO_move (v := .int .u32 x35) rfl ?_
      refine JO_shift (op := .shr) (k := .u32) (a := x35) (b := 16) (.inr rfl) rfl rfl (by decide) ?_
      refine JO_convI (k := .u32) (k' := .u8) (n := ishr .u32 x35 16) ul_5 (tt := .int .u32) ul_301 rfl ?_
      refine JO_move (v := .int .u32 x35) rfl ?_
      refine JO_shift (op := .shr) (k := .u32) (a := x35) (b := 8) (.inr rfl) rfl rfl (by decide) ?_
      refine JO_convI (k := .u32) (k' := .u8) (n := ishr .u32 x35 8) ul_5 (tt := .int .u32) ul_301 rfl ?_
      refine JO_move (v := .int .u32 x35) rfl ?_
      refine JO_convI (k := .u32) (k' := .u8) (n := x35) ul_5 (tt := .int .u32) ul_301 rfl ?_
      obtain ⟨g39, g40, H⟩ := H
      refine JO_indexAddrA (p := a2_) (i := IntKind.wrap .i64 (4 * t66_)) ea_373 h2 rfl g39 g40 ?_
      obtain ⟨p41, hq_⟩ : ∃ q : PA, q = (a2_.1, a2_.2 + (IntKind.wrap .i64 (4 * t66_) : Int).toNat * 1) := ⟨_, rfl⟩; rw [← hq_] at H ⊢; clear hq_
      obtain ⟨g42, H⟩ := H
      refine JO_store (p := p41) (v := .int .u8 (IntKind.wrap .u8 (ishr .u32 x35 24))) sz_5 rfl rfl rfl (hP.wr g42) ?_
      replace hP := hP.sto g42 (.int .u8 (IntKind.wrap .u8 (ishr .u32 x35 24)))
      obtain ⟨g43, g44, H⟩ := H
      refine JO_indexAddrA (p := a2_) (i := IntKind.wrap .i64 ((IntKind.wrap .i64 (4 * t66_)) + 1)) ea_373 h2 rfl g43 g44 ?_
      obtain ⟨p45, hq_⟩ : ∃ q : PA, q = (a2_.1, a2_.2 + (IntKind.wrap .i64 ((IntKind.wrap .i64 (4 * t66_)) + 1) : Int).toNat * 1) := ⟨_, rfl⟩; rw [← hq_] at H ⊢; clear hq_
      obtain ⟨g46, H⟩ := H
      refine JO_store (p := p45) (v := .int .u8 (IntKind.wrap .u8 (ishr .u32 x35 16))) sz_5 rfl rfl rfl (hP.wr g46) ?_
      replace hP := hP.sto g46 (.int .u8 (IntKind.wrap .u8 (ishr .u32 x35 16)))
      obtain ⟨g47, g48, H⟩ := H
      refine JO_indexAddrA (p := a2_) (i := IntKind.wrap .i64 ((IntKind.wrap .i64 (4 * t66_)) + 2)) ea_373 h2 rfl g47 g48 ?_
      obtain ⟨p49, hq_⟩ : ∃ q : PA, q = (a2_.1, a2_.2 + (IntKind.wrap .i64 ((IntKind.wrap .i64 (4 * t66_)) + 2) : Int).toNat * 1) := ⟨_, rfl⟩; rw [← hq_] at H ⊢; clear hq_
      obtain ⟨g50, H⟩ := H
      refine JO_store (p := p49) (v := .int .u8 (IntKind.wrap .u8 (ishr .u32 x35 8))) sz_5 rfl rfl rfl (hP.wr g50) ?_
      replace hP := hP.sto g50 (.int .u8 (IntKind.wrap .u8 (ishr .u32 x35 8)))
      obtain ⟨g51, g52, H⟩ := H
      refine JO_indexAddrA (p := a2_) (i := IntKind.wrap .i64 ((IntKind.wrap .i64 (4 * t66_)) + 3)) ea_373 h2 rfl g51 g52 ?_
      obtain ⟨p53, hq_⟩ : ∃ q : PA, q = (a2_.1, a2_.2 + (IntKind.wrap .i64 ((IntKind.wrap .i64 (4 * t66_)) + 3) : Int).toNat * 1) := ⟨_, rfl⟩; rw [← hq_] at H ⊢; clear hq_
      obtain ⟨g54, H⟩ := H
      refine JO_store (p := p53) (v := .int .u8 (IntKind.wrap .u8 x35)) sz_5 rfl rfl rfl (hP.wr g54) ?_
      replace hP := hP.sto g54 (.int .u8 (IntKind.wrap .u8 x35))
      refine JO_nil ?_
      refine J_region (by decide) ?_
      refine JO_iop (op := .add) (k := .i64) (a := t66_) (b := 1) h66 rfl trivial ?_
      refine JO_move (v := .int .i64 (IntKind.wrap .i64 (t66_ + 1))) rfl ?_
      refine JO_nil ?_
      exact ⟨IntKind.wrap .i64 (t66_ + 1), _, ⟨hD, h2, h65, rfl, hP⟩, H⟩
     ·
      replace H := H.2 hc_
      clear hc_
      refine J_exit ?_
      exact (show F329_6 K X _ _ from ⟨a2_, _, hD, h2, hP, H⟩)
    ·
     rintro e Mp ⟨a2_, M, hD, h2, hP, H⟩
     unfold S329_6 at H
     refine J_seq ?_
     refine J_region (by decide) ?_
     obtain ⟨xs55, g56, g57, H⟩ := H
     refine JO_loadAgg (p := a2_) (cs := xs55) (ag_373.trans g56.symm) (by rw [g56]; decide) h2 (fun i v hv => hP.cel (g57 i v hv)) ?_
     obtain ⟨g59, g60, g58, H⟩ := H
     refine JO_storeAgg (p := a2_) (cs := xs55) (by rw [g59]; exact sz_373) h2 rfl g60 (hP.wrs g58) ?_
     replace hP := hP.stos xs55 g58
     refine JO_nil ?_
     obtain ⟨xs61, g62, g63, H⟩ := H
     exact J_ret (kret (pan := X)  hD (fun _ _ hb => hP.sub hb) (resOk (rs := [.cell 2 373]) (vs := [.agg xs61.toArray]) rfl ⟨item_cellAgg (p := a2_) (cs := xs61) (ag_373.trans g62.symm) (by rw [g62]; decide) (by exact h2) (fun i v hv => hP.cel (g63 i v hv)), trivial⟩) ⟨xs61, rfl, H⟩)

/-! slices.rotateRight[string] -/
/-! brazier/digest.start -/
def S363 (K : Int → Int → Int → Int → Int → Int → Int → Int → Mem → Prop) (X : List PanicEntry → Mem → Prop) : Mem → Prop :=
 K 1779033703 3144134277 1013904242 2773480762 1359893119 2600822924 528734635 1541459225
theorem br363 {K : Int → Int → Int → Int → Int → Int → Int → Int → Mem → Prop} {X : List PanicEntry → Mem → Prop} {M : Mem} (H : S363  K X M) :
  Spec Tryz.prog 363 #[] M (fun v_ M => ∃ (r0_0 : Int) (r0_1 : Int) (r0_2 : Int) (r0_3 : Int) (r0_4 : Int) (r0_5 : Int) (r0_6 : Int) (r0_7 : Int), v_ = .agg #[.int .u32 r0_0, .int .u32 r0_1, .int .u32 r0_2, .int .u32 r0_3, .int .u32 r0_4, .int .u32 r0_5, .int .u32 r0_6, .int .u32 r0_7] ∧ K r0_0 r0_1 r0_2 r0_3 r0_4 r0_5 r0_6 r0_7 M) X := by
 refine spec_of_J (args := []) Tryz.func363 rfl Tryz.ntmps363 (Nat.le_of_ble_eq_true rfl) ?_
 have hD : (⟨fun i => ([] : List Value).getD i undef, []⟩ : Env).D = [] := rfl
 have hP := Pv.nil M
 have hX := @kx_of Tryz.prog Tryz.f363 (fun v_ M => ∃ (r0_0 : Int) (r0_1 : Int) (r0_2 : Int) (r0_3 : Int) (r0_4 : Int) (r0_5 : Int) (r0_6 : Int) (r0_7 : Int), v_ = .agg #[.int .u32 r0_0, .int .u32 r0_1, .int .u32 r0_2, .int .u32 r0_3, .int .u32 r0_4, .int .u32 r0_5, .int .u32 r0_6, .int .u32 r0_7] ∧ K r0_0 r0_1 r0_2 r0_3 r0_4 r0_5 r0_6 r0_7 M) X
 unfold S363 at H
 refine J_seq ?_
 refine J_region (by decide) ?_
 refine JO_alloc (cs := [.int .u32 0, .int .u32 0, .int .u32 0, .int .u32 0, .int .u32 0, .int .u32 0, .int .u32 0, .int .u32 0]) zc_431 ?_
 intro b1 hb
 replace hP : Pv _ [(b1, .cells #[.int .u32 0, .int .u32 0, .int .u32 0, .int .u32 0, .int .u32 0, .int .u32 0, .int .u32 0, .int .u32 0] 431 (0, 0))] _ := hP.box hb _
 refine JO_nil ?_
 refine J_seq ?_
 refine J_region (by decide) ?_
 refine JO_bldA (vs := [(0, .int .u32 1779033703), (1, .int .u32 3144134277), (2, .int .u32 1013904242), (3, .int .u32 2773480762), (4, .int .u32 1359893119), (5, .int .u32 2600822924), (6, .int .u32 528734635), (7, .int .u32 1541459225)]) (cs := [.int .u32 1779033703, .int .u32 3144134277, .int .u32 1013904242, .int .u32 2773480762, .int .u32 1359893119, .int .u32 2600822924, .int .u32 528734635, .int .u32 1541459225]) ea_431 zc_431 (mpc rfl (mpc rfl (mpc rfl (mpc rfl (mpc rfl (mpc rfl (mpc rfl (mpc rfl mpn)))))))) rfl ?_
 refine JO_storeAgg (p := (b1, 0)) (cs := [.int .u32 1779033703, .int .u32 3144134277, .int .u32 1013904242, .int .u32 2773480762, .int .u32 1359893119, .int .u32 2600822924, .int .u32 528734635, .int .u32 1541459225]) sz_431 rfl rfl (all_cons rfl (all_cons rfl (all_cons rfl (all_cons rfl (all_cons rfl (all_cons rfl (all_cons rfl (all_cons rfl all_nil)))))))) (fun j hj => wrOf (hP.get 0 rfl) (by simp at hj ⊢; omega) (by simp)) ?_
 replace hP : Pv _ [(b1, .cells #[.int .u32 1779033703, .int .u32 3144134277, .int .u32 1013904242, .int .u32 2773480762, .int .u32 1359893119, .int .u32 2600822924, .int .u32 528734635, .int .u32 1541459225] 431 (0, 0))] _ := Pv.stosL (i := 0) [.int .u32 1779033703, .int .u32 3144134277, .int .u32 1013904242, .int .u32 2773480762, .int .u32 1359893119, .int .u32 2600822924, .int .u32 528734635, .int .u32 1541459225] [.int .u32 0, .int .u32 0, .int .u32 0, .int .u32 0, .int .u32 0, .int .u32 0, .int .u32 0, .int .u32 0] 0 _ _ hP rfl
 refine JO_nil ?_
 exact J_ret (kret (pan := X)  hD (fun _ _ hb => hP.sub hb) (resOk (rs := [.cell 0 431]) (vs := [.agg #[.int .u32 1779033703, .int .u32 3144134277, .int .u32 1013904242, .int .u32 2773480762, .int .u32 1359893119, .int .u32 2600822924, .int .u32 528734635, .int .u32 1541459225]]) rfl ⟨item_cellAgg (p := (b1, 0)) (cs := [.int .u32 1779033703, .int .u32 3144134277, .int .u32 1013904242, .int .u32 2773480762, .int .u32 1359893119, .int .u32 2600822924, .int .u32 528734635, .int .u32 1541459225]) ag_431 (Nat.succ_pos _) rfl (cels_of (b := b1) (o := 0) ⟨celOf (hP.get 0 rfl) rfl, celOf (hP.get 0 rfl) rfl, celOf (hP.get 0 rfl) rfl, celOf (hP.get 0 rfl) rfl, celOf (hP.get 0 rfl) rfl, celOf (hP.get 0 rfl) rfl, celOf (hP.get 0 rfl) rfl, celOf (hP.get 0 rfl) rfl, trivial⟩), trivial⟩) ⟨1779033703, 3144134277, 1013904242, 2773480762, 1359893119, 2600822924, 528734635, 1541459225, rfl, H⟩)

/-! cmp.isNaN[string] -/
def S367 (t0 : ByteArray) (K : Bool → Mem → Prop) (X : List PanicEntry → Mem → Prop) : Mem → Prop :=
 K (!seq t0 t0)
theorem br367 {t0 : ByteArray} {K : Bool → Mem → Prop} {X : List PanicEntry → Mem → Prop} {M : Mem} (H : S367 t0 K X M) :
  Spec Tryz.prog 367 #[.string t0] M (fun v_ M => ∃ (r0 : Bool), v_ = .bool r0 ∧ K r0 M) X := by
 refine spec_of_J (args := [.string t0]) Tryz.func367 rfl Tryz.ntmps367 (Nat.le_of_ble_eq_true rfl) ?_
 have hD : (⟨fun i => ([.string t0] : List Value).getD i undef, []⟩ : Env).D = [] := rfl
 have hP := Pv.nil M
 have hX := @kx_of Tryz.prog Tryz.f367 (fun v_ M => ∃ (r0 : Bool), v_ = .bool r0 ∧ K r0 M) X
 unfold S367 at H
 refine J_seq ?_
 refine J_region (by decide) ?_
 refine JO_assign (v := .bool false) rfl ?_
 refine JO_nil ?_
 refine J_seq ?_
 refine J_region (by decide) ?_
 refine JO_move (v := .string t0) rfl ?_
 refine JO_move (v := .string t0) rfl ?_
 refine JO_scmp (op := .neq) (a := t0) (b := t0) (v := .bool (!seq t0 t0)) rfl rfl rfl ?_
 refine JO_assign (v := .bool (!seq t0 t0)) rfl ?_
 refine JO_nil ?_
 exact J_ret (kret (pan := X)  hD (fun _ _ hb => hP.sub hb) (resOk (rs := [.tmp 2]) (vs := [.bool (!seq t0 t0)]) rfl ⟨item_tmp rfl, trivial⟩) ⟨!seq t0 t0, rfl, H⟩)

/-! brazier/digest.schedule -/
def S392_3 (a2_ : PA) (K : List Value → Mem → Prop) (X : List PanicEntry → Mem → Prop) : Mem → Prop :=
 ldA 64 a2_ fun xs62 => stA 64 a2_ xs62 <| ldA 64 a2_ fun xs68 => K xs68
def S392_4b (a2_ : PA) (K : List Value → Mem → Prop) (X : List PanicEntry → Mem → Prop) (t4_ : Int) (next4 : Int → Mem → Prop) : Mem → Prop :=
 ite' (decide (t4_ < 64)) (ixA a2_ 64 1 (IntKind.wrap .i64 (t4_ - 15)) fun p36 => ixA a2_ 64 1 (IntKind.wrap .i64 (t4_ - 2)) fun p39 => ldI .u32 p36 fun t53_40 => ldI .u32 p39 fun t57_42 => ixA a2_ 64 1 (IntKind.wrap .i64 (t4_ - 16)) fun p46 => ixA a2_ 64 1 (IntKind.wrap .i64 (t4_ - 7)) fun p49 => ldI .u32 p46 fun t62_50 => ldI .u32 p49 fun t75_52 => callK 394 [.int .u32 t53_40, .int .i64 7] fun v_ M => ∃ (r54 : Int), v_ = .int .u32 r54 ∧ ( callK 394 [.int .u32 t53_40, .int .i64 18] fun v_ M => ∃ (r55 : Int), v_ = .int .u32 r55 ∧ ( callK 394 [.int .u32 t57_42, .int .i64 17] fun v_ M => ∃ (r56 : Int), v_ = .int .u32 r56 ∧ ( callK 394 [.int .u32 t57_42, .int .i64 19] fun v_ M => ∃ (r57 : Int), v_ = .int .u32 r57 ∧ ( ixA a2_ 64 1 t4_ fun p60 => st p60 (.int .u32 (IntKind.wrap .u32 ((IntKind.wrap .u32 ((IntKind.wrap .u32 (t62_50 + (ixor .u32 (ixor .u32 r54 r55) (ishr .u32 t53_40 3)))) + t75_52)) + (ixor .u32 (ixor .u32 r56 r57) (ishr .u32 t57_42 10))))) <| next4 (IntKind.wrap .i64 (t4_ + 1))) M) M) M) M) (S392_3 a2_ K X)
def S392_4 (a2_ : PA) (t4_ : Int) (K : List Value → Mem → Prop) (X : List PanicEntry → Mem → Prop) : Mem → Prop :=
 Lp (fun (s_ : Int) next4 => S392_4b a2_ K X s_ next4) t4_
def S392_1 (a2_ : PA) (K : List Value → Mem → Prop) (X : List PanicEntry → Mem → Prop) : Mem → Prop :=
 S392_4 a2_ 16 K X
def S392_2b (t0_ : Sl) (a2_ : PA) (K : List Value → Mem → Prop) (X : List PanicEntry → Mem → Prop) (t7_ : Int) (next2 : Int → Mem → Prop) : Mem → Prop :=
 ite' (decide (t7_ < 16)) (ix t0_ 1 (IntKind.wrap .i64 (4 * t7_)) fun p6 => ix t0_ 1 (IntKind.wrap .i64 ((IntKind.wrap .i64 (4 * t7_)) + 1)) fun p11 => ix t0_ 1 (IntKind.wrap .i64 ((IntKind.wrap .i64 (4 * t7_)) + 2)) fun p16 => ix t0_ 1 (IntKind.wrap .i64 ((IntKind.wrap .i64 (4 * t7_)) + 3)) fun p21 => ldI .u8 p6 fun t15_22 => ldI .u8 p11 fun t23_24 => ldI .u8 p16 fun t32_26 => ldI .u8 p21 fun t41_28 => ixA a2_ 64 1 t7_ fun p32 => st p32 (.int .u32 (ior .u32 (ior .u32 (ior .u32 (ishl .u32 (IntKind.wrap .u32 t15_22) 24) (ishl .u32 (IntKind.wrap .u32 t23_24) 16)) (ishl .u32 (IntKind.wrap .u32 t32_26) 8)) (IntKind.wrap .u32 t41_28))) <| next2 (IntKind.wrap .i64 (t7_ + 1))) (S392_1 a2_ K X)
def S392_2 (t0_ : Sl) (a2_ : PA) (t7_ : Int) (K : List Value → Mem → Prop) (X : List PanicEntry → Mem → Prop) : Mem → Prop :=
 Lp (fun (s_ : Int) next2 => S392_2b t0_ a2_ K X s_ next2) t7_
def S392 (t0 : Sl) (K : List Value → Mem → Prop) (X : List PanicEntry → Mem → Prop) : Mem → Prop :=
 new (.cells (List.replicate 64 (.int .u32 0)).toArray 450 (0, 0)) fun b1 => S392_2 t0 (b1, 0) 0 K X
abbrev F392_2 (K : List Value → Mem → Prop) (X : List PanicEntry → Mem → Prop) (e : Env) (Mp : Mem) : Prop := ∃ (t0_ : Sl) (a2_ : PA) (t7_ : Int) (M : Mem), e.D = [] ∧ e.v 0 = Sl.v t0_ ∧ e.v 2 = ptr (some a2_) ∧ e.v 7 = .int .i64 t7_ ∧ Pv M [] Mp ∧ S392_2 t0_ a2_ t7_ K X M
abbrev F392_4 (K : List Value → Mem → Prop) (X : List PanicEntry → Mem → Prop) (e : Env) (Mp : Mem) : Prop := ∃ (a2_ : PA) (t4_ : Int) (M : Mem), e.D = [] ∧ e.v 2 = ptr (some a2_) ∧ e.v 4 = .int .i64 t4_ ∧ Pv M [] Mp ∧ S392_4 a2_ t4_ K X M
abbrev F392_3 (K : List Value → Mem → Prop) (X : List PanicEntry → Mem → Prop) (e : Env) (Mp : Mem) : Prop := ∃ (a2_ : PA) (M : Mem), e.D = [] ∧ e.v 2 = ptr (some a2_) ∧ Pv M [] Mp ∧ S392_3 a2_ K X M
abbrev F392_1 (K : List Value → Mem → Prop) (X : List PanicEntry → Mem → Prop) (e : Env) (Mp : Mem) : Prop := ∃ (a2_ : PA) (M : Mem), e.D = [] ∧ e.v 2 = ptr (some a2_) ∧ Pv M [] Mp ∧ S392_1 a2_ K X M
theorem br392 {t0 : Sl} {K : List Value → Mem → Prop} {X : List PanicEntry → Mem → Prop} {M : Mem} (H : S392 t0 K X M) :
  Spec Tryz.prog 392 #[Sl.v t0] M (fun v_ M => ∃ (r0 : List Value), v_ = .agg r0.toArray ∧ K r0 M) X := by
 refine spec_of_J (args := [Sl.v t0]) Tryz.func392 rfl Tryz.ntmps392 (Nat.le_of_ble_eq_true rfl) ?_
 have hD : (⟨fun i => ([Sl.v t0] : List Value).getD i undef, []⟩ : Env).D = [] := rfl
 have hP := Pv.nil M
 have hX := @kx_of Tryz.prog Tryz.f392 (fun v_ M => ∃ (r0 : List Value), v_ = .agg r0.toArray ∧ K r0 M) X
 unfold S392 at H
 refine J_seq ?_
 refine J_region (by decide) ?_
 refine JO_alloc (cs := List.replicate 64 (.int .u32 0)) zc_450 ?_
 intro b1 hb
 replace H := H b1 (hP.out hb).1
 replace hP := hP.new hb (.cells (List.replicate 64 (.int .u32 0)).toArray 450 (0, 0))
 refine JO_nil ?_
 refine J_seq ?_
 refine J_seq ?_
 refine J_region (by decide) ?_
 refine JO_move (v := .int .i64 0) rfl ?_
 refine JO_nil ?_
 refine J_blockF (F392_1 K X) ?_ ?_
 ·
  refine J_of (F392_2 K X) (show F392_2 K X _ _ from ⟨t0, (b1, 0), 0, _, hD, rfl, rfl, rfl, hP, H⟩) ?_
  rintro e Mp ⟨t0_, a2_, t7_, M, hD, h0, h2, h7, hP, H⟩
  unfold S392_2 at H
  refine J_loopP (σ := Int) (body := fun (s_ : Int) next2 => S392_2b t0_ a2_ K X s_ next2) (s := t7_) (M := M) (fun (s_ : Int) (e : Env) (M Mp : Mem) => e.D = [] ∧ e.v 0 = Sl.v t0_ ∧ e.v 2 = ptr (some a2_) ∧ e.v 7 = .int .i64 s_ ∧ Pv M [] Mp) ?_ ⟨hD, h0, h2, h7, hP⟩ H
  rintro next2 t7_ e M Mp ⟨hD, h0, h2, h7, hP⟩ H
  replace H : S392_2b t0_ a2_ K X t7_ next2 M := H
  unfold S392_2b at H
  refine J_seq ?_
  refine J_region (by decide) ?_
  refine JO_iop (op := .lss) (k := .i64) (a := t7_) (b := 16) h7 rfl trivial ?_
  refine JO_nil ?_
  refine J_seq ?_
  refine J_cond (t := decide (t7_ < 16)) rfl (fun hc_ => ?_) (fun hc_ => ?_)
  ·
   replace H := H.1 hc_
   clear hc_
   refine J_skip ?_
   refine J_seq ?_
   refine J_block ?_
   refine J_seq ?_
   refine J_region (by decide) ?_
   refine JO_move (v := .int .i64 t7_) h7 ?_
   refine JO_assign (v := .int .i64 t7_) rfl ?_
   refine JO_nil ?_
   refine J_draw [0, 0, 0, 0, 0, 1, 0, 0, 0, 0, 0, 0, 0, 1, 0, 0, 0, 0, 0, 0, 0, 0, 1, 0, 0, 0, 0, 0, 0, 0, 0, 1, 0, 0, 0, 3] (.cho 0 (.cho 1 (.cho 2 (.cho 3 (.cho 4 (.cho 8 (.cho 9 (.cho 10 (.cho 11 (.cho 12 (.cho 17 (.cho 18 (.cho 19 (.cho 20 (.cho 21 (.cho 26 (.cho 27 (.cho 28 (.cho 29 (.cho 30 (.cho 5 (.cho 6 (.cho 7 (.cho 13 (.cho 14 (.cho 15 (.cho 16 (.cho 22 (.cho 23 (.cho 24 (.cho 25 (.cho 31 (.cho 32 (.cho 33 (.cho 34 (.cho 35 .done .none) .none) .none) .none) .none) .none) .none) .none) .none) .none) .none) .none) .none) .none) .none) .none) .none) .none) .none) .none) .none) .none) .none) .none) .none) .none) .none) .none) .none) .none) .none) .none) .none) .none) .none) .none) rfl (by kernel_rfl) ?_
   refine JE_one ?_
   refine ST0 (fun _ h => by cases h) (fun w => OV_move (v := .int .i64 t7_) rfl w) ?_
   refine JE_one ?_
   refine ST0 (fun _ h => by cases h) (fun w => OV_move (v := Sl.v t0_) (by exact h0) w) ?_
   refine JE_one ?_
   refine ST0 (fun _ h => by cases h) (fun w => OV_move (v := .int .i64 t7_) rfl w) ?_
   refine JE_one ?_
   refine ST0 (fun _ h => by cases h) (fun w => OV_iop (op := .mul) (k := .i64) (a := 4) (b := t7_) rfl rfl trivial w) ?_
   refine JE_one ?_
   obtain ⟨a2, g3, g4, g5, H⟩ := H
   refine ST0 (fun _ h => by cases h) (fun w => OV_indexAddr (s := t0_) (p := a2) (i := IntKind.wrap .i64 (4 * t7_)) es_32 rfl rfl g3 g4 g5 w) ?_
   obtain ⟨p6, hq_⟩ : ∃ q : PA, q = (a2.1, a2.2 + (IntKind.wrap .i64 (4 * t7_) : Int).toNat * 1) := ⟨_, rfl⟩; rw [← hq_] at H ⊢; clear hq_
   refine JE_one ?_
   refine ST0 (fun _ h => by cases h) (fun w => OV_move (v := Sl.v t0_) (by exact h0) w) ?_
   refine JE_one ?_
   refine ST0 (fun _ h => by cases h) (fun w => OV_move (v := .int .i64 t7_) rfl w) ?_
   refine JE_one ?_
   refine ST0 (fun _ h => by cases h) (fun w => OV_iop (op := .mul) (k := .i64) (a := 4) (b := t7_) rfl rfl trivial w) ?_
   refine JE_one ?_
   refine ST0 (fun _ h => by cases h) (fun w => OV_iop (op := .add) (k := .i64) (a := IntKind.wrap .i64 (4 * t7_)) (b := 1) rfl rfl trivial w) ?_
   refine JE_one ?_
   obtain ⟨a7, g8, g9, g10, H⟩ := H
   refine ST0 (fun _ h => by cases h) (fun w => OV_indexAddr (s := t0_) (p := a7) (i := IntKind.wrap .i64 ((IntKind.wrap .i64 (4 * t7_)) + 1)) es_32 rfl rfl g8 g9 g10 w) ?_
   obtain ⟨p11, hq_⟩ : ∃ q : PA, q = (a7.1, a7.2 + (IntKind.wrap .i64 ((IntKind.wrap .i64 (4 * t7_)) + 1) : Int).toNat * 1) := ⟨_, rfl⟩; rw [← hq_] at H ⊢; clear hq_
   refine JE_one ?_
   refine ST0 (fun _ h => by cases h) (fun w => OV_move (v := Sl.v t0_) (by exact h0) w) ?_
   refine JE_one ?_
   refine ST0 (fun _ h => by cases h) (fun w => OV_move (v := .int .i64 t7_) rfl w) ?_
   refine JE_one ?_
   refine ST0 (fun _ h => by cases h) (fun w => OV_iop (op := .mul) (k := .i64) (a := 4) (b := t7_) rfl rfl trivial w) ?_
   refine JE_one ?_
   refine ST0 (fun _ h => by cases h) (fun w => OV_iop (op := .add) (k := .i64) (a := IntKind.wrap .i64 (4 * t7_)) (b := 2) rfl rfl trivial w) ?_
   refine JE_one ?_
   obtain ⟨a12, g13, g14, g15, H⟩ := H
   refine ST0 (fun _ h => by cases h) (fun w => OV_indexAddr (s := t0_) (p := a12) (i := IntKind.wrap .i64 ((IntKind.wrap .i64 (4 * t7_)) + 2)) es_32 rfl rfl g13 g14 g15 w) ?_
   obtain ⟨p16, hq_⟩ : ∃ q : PA, q = (a12.1, a12.2 + (IntKind.wrap .i64 ((IntKind.wrap .i64 (4 * t7_)) + 2) : Int).toNat * 1) := ⟨_, rfl⟩; rw [← hq_] at H ⊢; clear hq_
   refine JE_one ?_
   refine ST0 (fun _ h => by cases h) (fun w => OV_move (v := Sl.v t0_) (by exact h0) w) ?_
   refine JE_one ?_
   refine ST0 (fun _ h => by cases h) (fun w => OV_move (v := .int .i64 t7_) rfl w) ?_
   refine JE_one ?_
   refine ST0 (fun _ h => by cases h) (fun w => OV_iop (op := .mul) (k := .i64) (a := 4) (b := t7_) rfl rfl trivial w) ?_
   refine JE_one ?_
   refine ST0 (fun _ h => by cases h) (fun w => OV_iop (op := .add) (k := .i64) (a := IntKind.wrap .i64 (4 * t7_)) (b := 3) rfl rfl trivial w) ?_
   refine JE_one ?_
   obtain ⟨a17, g18, g19, g20, H⟩ := H
   refine ST0 (fun _ h => by cases h) (fun w => OV_indexAddr (s := t0_) (p := a17) (i := IntKind.wrap .i64 ((IntKind.wrap .i64 (4 * t7_)) + 3)) es_32 rfl rfl g18 g19 g20 w) ?_
   obtain ⟨p21, hq_⟩ : ∃ q : PA, q = (a17.1, a17.2 + (IntKind.wrap .i64 ((IntKind.wrap .i64 (4 * t7_)) + 3) : Int).toNat * 1) := ⟨_, rfl⟩; rw [← hq_] at H ⊢; clear hq_
   refine JE_one ?_
   obtain ⟨t15_22, g23, H⟩ := H
   refine ST1 (fun _ h => by cases h) (fun w hs => OV_load (p := p6) (v := .int .u8 t15_22) na_5 rfl (hP.cel g23) w hs) ?_
   refine JE_one ?_
   refine ST0 (fun _ h => by cases h) (fun w => OV_convI (k := .u8) (k' := .u32) (n := t15_22) ul_301 (tt := .int .u8) ul_5 rfl w) ?_
   refine JE_one ?_
   refine ST0 (fun _ h => by cases h) (fun w => OV_shift (op := .shl) (k := .u32) (a := IntKind.wrap .u32 t15_22) (b := 24) (.inl rfl) rfl rfl (by decide) w) ?_
   refine JE_one ?_
   obtain ⟨t23_24, g25, H⟩ := H
   refine ST1 (fun _ h => by cases h) (fun w hs => OV_load (p := p11) (v := .int .u8 t23_24) na_5 rfl (hP.cel g25) w hs) ?_
   refine JE_one ?_
   refine ST0 (fun _ h => by cases h) (fun w => OV_convI (k := .u8) (k' := .u32) (n := t23_24) ul_301 (tt := .int .u8) ul_5 rfl w) ?_
   refine JE_one ?_
   refine ST0 (fun _ h => by cases h) (fun w => OV_shift (op := .shl) (k := .u32) (a := IntKind.wrap .u32 t23_24) (b := 16) (.inl rfl) rfl rfl (by decide) w) ?_
   refine JE_one ?_
   refine ST0 (fun _ h => by cases h) (fun w => OV_iop (op := .or) (k := .u32) (a := ishl .u32 (IntKind.wrap .u32 t15_22) 24) (b := ishl .u32 (IntKind.wrap .u32 t23_24) 16) rfl rfl trivial w) ?_
   refine JE_one ?_
   obtain ⟨t32_26, g27, H⟩ := H
   refine ST1 (fun _ h => by cases h) (fun w hs => OV_load (p := p16) (v := .int .u8 t32_26) na_5 rfl (hP.cel g27) w hs) ?_
   refine JE_one ?_
   refine ST0 (fun _ h => by cases h) (fun w => OV_convI (k := .u8) (k' := .u32) (n := t32_26) ul_301 (tt := .int .u8) ul_5 rfl w) ?_
   refine JE_one ?_
   refine ST0 (fun _ h => by cases h) (fun w => OV_shift (op := .shl) (k := .u32) (a := IntKind.wrap .u32 t32_26) (b := 8) (.inl rfl) rfl rfl (by decide) w) ?_
   refine JE_one ?_
   refine ST0 (fun _ h => by cases h) (fun w => OV_iop (op := .or) (k := .u32) (a := ior .u32 (ishl .u32 (IntKind.wrap .u32 t15_22) 24) (ishl .u32 (IntKind.wrap .u32 t23_24) 16)) (b := ishl .u32 (IntKind.wrap .u32 t32_26) 8) rfl rfl trivial w) ?_
   refine JE_one ?_
   obtain ⟨t41_28, g29, H⟩ := H
   refine ST1 (fun _ h => by cases h) (fun w hs => OV_load (p := p21) (v := .int .u8 t41_28) na_5 rfl (hP.cel g29) w hs) ?_
   refine JE_one ?_
   refine ST0 (fun _ h => by cases h) (fun w => OV_convI (k := .u8) (k' := .u32) (n := t41_28) ul_301 (tt := .int .u8) ul_5 rfl w) ?_
   refine JE_one ?_
   refine ST0 (fun _ h => by cases h) (fun w => OV_iop (op := .or) (k := .u32) (a := ior .u32 (ior .u32 (ishl .u32 (IntKind.wrap .u32 t15_22) 24) (ishl .u32 (IntKind.wrap .u32 t23_24) 16)) (ishl .u32 (IntKind.wrap .u32 t32_26) 8)) (b := IntKind.wrap .u32 t41_28) rfl rfl trivial w) ?_
   refine JE_one ?_
   obtain ⟨g30, g31, H⟩ := H
   refine ST0 (fun _ h => by cases h) (fun w => OV_indexAddrA (p := a2_) (i := t7_) ea_450 (by exact h2) rfl g30 g31 w) ?_
   obtain ⟨p32, hq_⟩ : ∃ q : PA, q = (a2_.1, a2_.2 + (t7_ : Int).toNat * 1) := ⟨_, rfl⟩; rw [← hq_] at H ⊢; clear hq_
   refine JE_one ?_
   refine ST3 ?_
   obtain ⟨g33, H⟩ := H
   refine JO_store (p := p32) (v := .int .u32 (ior .u32 (ior .u32 (ior .u32 (ishl .u32 (IntKind.wrap .u32 t15_22) 24) (ishl .u32 (IntKind.wrap .u32 t23_24) 16)) (ishl .u32 (IntKind.wrap .u32 t32_26) 8)) (IntKind.wrap .u32 t41_28))) sz_301 rfl rfl rfl (hP.wr g33) ?_
   replace hP := hP.sto g33 (.int .u32 (ior .u32 (ior .u32 (ior .u32 (ishl .u32 (IntKind.wrap .u32 t15_22) 24) (ishl .u32 (IntKind.wrap .u32 t23_24) 16)) (ishl .u32 (IntKind.wrap .u32 t32_26) 8)) (IntKind.wrap .u32 t41_28)))
   refine Kd_nil ?_
   refine JE_done ?_
   refine J_region (by decide) ?_
   refine JO_iop (op := .add) (k := .i64) (a := t7_) (b := 1) h7 rfl trivial ?_
   refine JO_move (v := .int .i64 (IntKind.wrap .i64 (t7_ + 1))) rfl ?_
   refine JO_nil ?_
   exact ⟨IntKind.wrap .i64 (t7_ + 1), _, ⟨hD, h0, h2, rfl, hP⟩, H⟩
  ·
   replace H := H.2 hc_
   clear hc_
   refine J_exit ?_
   exact (show F392_1 K X _ _ from ⟨a2_, _, hD, h2, hP, H⟩)
 ·
  rintro e Mp ⟨a2_, M, hD, h2, hP, H⟩
  unfold S392_1 at H
  refine J_seq ?_
  refine J_seq ?_
  refine J_region (by decide) ?_
  refine JO_assign (v := .int .i64 16) rfl ?_
  refine JO_nil ?_
  refine J_blockF (F392_3 K X) ?_ ?_
  ·
   refine J_of (F392_4 K X) (show F392_4 K X _ _ from ⟨a2_, 16, _, hD, h2, rfl, hP, H⟩) ?_
   rintro e Mp ⟨a2_, t4_, M, hD, h2, h4, hP, H⟩
   unfold S392_4 at H
   refine J_loopP (σ := Int) (body := fun (s_ : Int) next4 => S392_4b a2_ K X s_ next4) (s := t4_) (M := M) (fun (s_ : Int) (e : Env) (M Mp : Mem) => e.D = [] ∧ e.v 2 = ptr (some a2_) ∧ e.v 4 = .int .i64 s_ ∧ Pv M [] Mp) ?_ ⟨hD, h2, h4, hP⟩ H
   rintro next4 t4_ e M Mp ⟨hD, h2, h4, hP⟩ H
   replace H : S392_4b a2_ K X t4_ next4 M := H
   unfold S392_4b at H
   refine J_seq ?_
   refine J_seq ?_
   refine J_region (by decide) ?_
   refine JO_move (v := .int .i64 t4_) h4 ?_
   refine JO_iop (op := .lss) (k := .i64) (a := t4_) (b := 64) rfl rfl trivial ?_
   refine JO_nil ?_
   refine J_cond (t := decide (t4_ < 64)) rfl (fun hc_ => ?_) (fun hc_ => ?_)
   ·
    replace H := H.1 hc_
    clear hc_
    refine J_skip ?_
    refine J_seq ?_
    refine J_block ?_
    refine J_seq ?_
    refine J_draw [0, 0, 0, 1, 0, 0, 0, 1, 0, 0] (.cho 0 (.cho 1 (.cho 2 (.cho 4 (.cho 5 (.cho 6 (.cho 3 (.cho 8 (.cho 7 (.cho 9 .done .none) .none) .none) .none) .none) .none) .none) .none) .none) .none) rfl (by kernel_rfl) ?_
    refine JE_one ?_
    refine ST0 (fun _ h => by cases h) (fun w => OV_move (v := .int .i64 t4_) (by exact h4) w) ?_
    refine JE_one ?_
    refine ST0 (fun _ h => by cases h) (fun w => OV_iop (op := .sub) (k := .i64) (a := t4_) (b := 15) rfl rfl trivial w) ?_
    refine JE_one ?_
    obtain ⟨g34, g35, H⟩ := H
    refine ST0 (fun _ h => by cases h) (fun w => OV_indexAddrA (p := a2_) (i := IntKind.wrap .i64 (t4_ - 15)) ea_450 (by exact h2) rfl g34 g35 w) ?_
    obtain ⟨p36, hq_⟩ : ∃ q : PA, q = (a2_.1, a2_.2 + (IntKind.wrap .i64 (t4_ - 15) : Int).toNat * 1) := ⟨_, rfl⟩; rw [← hq_] at H ⊢; clear hq_
    refine JE_one ?_
    refine ST0 (fun _ h => by cases h) (fun w => OV_move (v := .int .i64 t4_) (by exact h4) w) ?_
    refine JE_one ?_
    refine ST0 (fun _ h => by cases h) (fun w => OV_iop (op := .sub) (k := .i64) (a := t4_) (b := 2) rfl rfl trivial w) ?_
    refine JE_one ?_
    obtain ⟨g37, g38, H⟩ := H
    refine ST0 (fun _ h => by cases h) (fun w => OV_indexAddrA (p := a2_) (i := IntKind.wrap .i64 (t4_ - 2)) ea_450 (by exact h2) rfl g37 g38 w) ?_
    obtain ⟨p39, hq_⟩ : ∃ q : PA, q = (a2_.1, a2_.2 + (IntKind.wrap .i64 (t4_ - 2) : Int).toNat * 1) := ⟨_, rfl⟩; rw [← hq_] at H ⊢; clear hq_
    refine JE_one ?_
    obtain ⟨t53_40, g41, H⟩ := H
    refine ST1 (fun _ h => by cases h) (fun w hs => OV_load (p := p36) (v := .int .u32 t53_40) na_301 rfl (hP.cel g41) w hs) ?_
    refine JE_one ?_
    refine ST0 (fun _ h => by cases h) (fun w => OV_assign (v := .int .u32 t53_40) rfl w) ?_
    refine JE_one ?_
    obtain ⟨t57_42, g43, H⟩ := H
    refine ST1 (fun _ h => by cases h) (fun w hs => OV_load (p := p39) (v := .int .u32 t57_42) na_301 rfl (hP.cel g43) w hs) ?_
    refine JE_one ?_
    refine ST0 (fun _ h => by cases h) (fun w => OV_assign (v := .int .u32 t57_42) rfl w) ?_
    refine JE_done ?_
    refine J_draw [0, 0, 0, 0, 1, 0, 4, 0, 4, 0, 0, 0, 0, 0, 0, 0, 0, 1, 0, 0, 4, 0, 4, 0, 0, 0, 0, 0, 0, 3] (.cho 0 (.cho 1 (.cho 2 (.cho 3 (.cho 5 (.cho 7 (.cho 10 (.cho 11 (.cho 14 (.cho 15 (.cho 16 (.cho 19 (.cho 21 (.cho 24 (.cho 25 (.cho 4 (.cho 17 (.cho 6 (.cho 8 (.cho 9 (.cho 12 (.cho 13 (.cho 18 (.cho 20 (.cho 22 (.cho 23 (.cho 26 (.cho 27 (.cho 28 (.cho 29 .done .none) .none) .none) .none) .none) .none) .none) .none) .none) .none) .none) .none) .none) .none) .none) .none) .none) .none) .none) .none) .none) .none) .none) .none) .none) .none) .none) .none) .none) .none) rfl (by kernel_rfl) ?_
    refine JE_one ?_
    refine ST0 (fun _ h => by cases h) (fun w => OV_move (v := .int .i64 t4_) (by exact h4) w) ?_
    refine JE_one ?_
    refine ST0 (fun _ h => by cases h) (fun w => OV_move (v := .int .i64 t4_) (by exact h4) w) ?_
    refine JE_one ?_
    refine ST0 (fun _ h => by cases h) (fun w => OV_iop (op := .sub) (k := .i64) (a := t4_) (b := 16) rfl rfl trivial w) ?_
    refine JE_one ?_
    obtain ⟨g44, g45, H⟩ := H
    refine ST0 (fun _ h => by cases h) (fun w => OV_indexAddrA (p := a2_) (i := IntKind.wrap .i64 (t4_ - 16)) ea_450 (by exact h2) rfl g44 g45 w) ?_
    obtain ⟨p46, hq_⟩ : ∃ q : PA, q = (a2_.1, a2_.2 + (IntKind.wrap .i64 (t4_ - 16) : Int).toNat * 1) := ⟨_, rfl⟩; rw [← hq_] at H ⊢; clear hq_
    refine JE_one ?_
    refine ST0 (fun _ h => by cases h) (fun w => OV_move (v := .int .u32 t53_40) rfl w) ?_
    refine JE_one ?_
    refine ST0 (fun _ h => by cases h) (fun w => OV_move (v := .int .u32 t53_40) rfl w) ?_
    refine JE_one ?_
    refine ST0 (fun _ h => by cases h) (fun w => OV_move (v := .int .u32 t53_40) rfl w) ?_
    refine JE_one ?_
    refine ST0 (fun _ h => by cases h) (fun w => OV_shift (op := .shr) (k := .u32) (a := t53_40) (b := 3) (.inr rfl) rfl rfl (by decide) w) ?_
    refine JE_one ?_
    refine ST0 (fun _ h => by cases h) (fun w => OV_move (v := .int .i64 t4_) (by exact h4) w) ?_
    refine JE_one ?_
    refine ST0 (fun _ h => by cases h) (fun w => OV_iop (op := .sub) (k := .i64) (a := t4_) (b := 7) rfl rfl trivial w) ?_
    refine JE_one ?_
    obtain ⟨g47, g48, H⟩ := H
    refine ST0 (fun _ h => by cases h) (fun w => OV_indexAddrA (p := a2_) (i := IntKind.wrap .i64 (t4_ - 7)) ea_450 (by exact h2) rfl g47 g48 w) ?_
    obtain ⟨p49, hq_⟩ : ∃ q : PA, q = (a2_.1, a2_.2 + (IntKind.wrap .i64 (t4_ - 7) : Int).toNat * 1) := ⟨_, rfl⟩; rw [← hq_] at H ⊢; clear hq_
    refine JE_one ?_
    refine ST0 (fun _ h => by cases h) (fun w => OV_move (v := .int .u32 t57_42) rfl w) ?_
    refine JE_one ?_
    refine ST0 (fun _ h => by cases h) (fun w => OV_move (v := .int .u32 t57_42) rfl w) ?_
    refine JE_one ?_
    refine ST0 (fun _ h => by cases h) (fun w => OV_move (v := .int .u32 t57_42) rfl w) ?_
    refine JE_one ?_
    refine ST0 (fun _ h => by cases h) (fun w => OV_shift (op := .shr) (k := .u32) (a := t57_42) (b := 10) (.inr rfl) rfl rfl (by decide) w) ?_
    refine JE_one ?_
    obtain ⟨t62_50, g51, H⟩ := H
    refine ST1 (fun _ h => by cases h) (fun w hs => OV_load (p := p46) (v := .int .u32 t62_50) na_301 rfl (hP.cel g51) w hs) ?_
    refine JE_one ?_
    obtain ⟨t75_52, g53, H⟩ := H
    refine ST1 (fun _ h => by cases h) (fun w hs => OV_load (p := p49) (v := .int .u32 t75_52) na_301 rfl (hP.cel g53) w hs) ?_
    refine JE_one ?_
    refine ST4 ?_
    refine JO_call Tryz.call394 (vs := [.int .u32 t53_40, .int .i64 7]) (mc rfl (mc rfl mn)) ((hP.specK H).mono ?_ (fun _ _ ⟨_, _, f⟩ => f.elim))
    rintro rv_ Mp ⟨M, hP', hk_, r54, rfl, H⟩
    refine Kd_nil ?_
    refine And.intro hk_ ?_
    replace hP := hP'
    refine JE_one ?_
    refine ST4 ?_
    refine JO_call Tryz.call394 (vs := [.int .u32 t53_40, .int .i64 18]) (mc rfl (mc rfl mn)) ((hP.specK H).mono ?_ (fun _ _ ⟨_, _, f⟩ => f.elim))
    rintro rv_ Mp ⟨M, hP', hk_, r55, rfl, H⟩
    refine Kd_nil ?_
    refine And.intro hk_ ?_
    replace hP := hP'
    refine JE_one ?_
    refine ST0 (fun _ h => by cases h) (fun w => OV_iop (op := .xor) (k := .u32) (a := r54) (b := r55) rfl rfl trivial w) ?_
    refine JE_one ?_
    refine ST0 (fun _ h => by cases h) (fun w => OV_iop (op := .xor) (k := .u32) (a := ixor .u32 r54 r55) (b := ishr .u32 t53_40 3) rfl rfl trivial w) ?_
    refine JE_one ?_
    refine ST0 (fun _ h => by cases h) (fun w => OV_iop (op := .add) (k := .u32) (a := t62_50) (b := ixor .u32 (ixor .u32 r54 r55) (ishr .u32 t53_40 3)) rfl rfl trivial w) ?_
    refine JE_one ?_
    refine ST0 (fun _ h => by cases h) (fun w => OV_iop (op := .add) (k := .u32) (a := IntKind.wrap .u32 (t62_50 + (ixor .u32 (ixor .u32 r54 r55) (ishr .u32 t53_40 3)))) (b := t75_52) rfl rfl trivial w) ?_
    refine JE_one ?_
    refine ST4 ?_
    refine JO_call Tryz.call394 (vs := [.int .u32 t57_42, .int .i64 17]) (mc rfl (mc rfl mn)) ((hP.specK H).mono ?_ (fun _ _ ⟨_, _, f⟩ => f.elim))
    rintro rv_ Mp ⟨M, hP', hk_, r56, rfl, H⟩
    refine Kd_nil ?_
    refine And.intro hk_ ?_
    replace hP := hP'
    refine JE_one ?_
    refine ST4 ?_
    refine JO_call Tryz.call394 (vs := [.int .u32 t57_42, .int .i64 19]) (mc rfl (mc rfl mn)) ((hP.specK H).mono ?_ (fun _ _ ⟨_, _, f⟩ => f.elim))
    rintro rv_ Mp ⟨M, hP', hk_, r57, rfl, H⟩
    refine Kd_nil ?_
    refine And.intro hk_ ?_
    replace hP := hP'
    refine JE_one ?_
    refine ST0 (fun _ h => by cases h) (fun w => OV_iop (op := .xor) (k := .u32) (a := r56) (b := r57) rfl rfl trivial w) ?_
    refine JE_one ?_
    refine ST0 (fun _ h => by cases h) (fun w => OV_iop (op := .xor) (k := .u32) (a := ixor .u32 r56 r57) (b := ishr .u32 t57_42 10) rfl rfl trivial w) ?_
    refine JE_one ?_
    refine ST0 (fun _ h => by cases h) (fun w => OV_iop (op := .add) (k := .u32) (a := IntKind.wrap .u32 ((IntKind.wrap .u32 (t62_50 + (ixor .u32 (ixor .u32 r54 r55) (ishr .u32 t53_40 3)))) + t75_52)) (b := ixor .u32 (ixor .u32 r56 r57) (ishr .u32 t57_42 10)) rfl rfl trivial w) ?_
    refine JE_one ?_
    obtain ⟨g58, g59, H⟩ := H
    refine ST0 (fun _ h => by cases h) (fun w => OV_indexAddrA (p := a2_) (i := t4_) ea_450 (by exact h2) rfl g58 g59 w) ?_
    obtain ⟨p60, hq_⟩ : ∃ q : PA, q = (a2_.1, a2_.2 + (t4_ : Int).toNat * 1) := ⟨_, rfl⟩; rw [← hq_] at H ⊢; clear hq_
    refine JE_one ?_
    refine ST3 ?_
    obtain ⟨g61, H⟩ := H
    refine JO_store (p := p60) (v := .int .u32 (IntKind.wrap .u32 ((IntKind.wrap .u32 ((IntKind.wrap .u32 (t62_50 + (ixor .u32 (ixor .u32 r54 r55) (ishr .u32 t53_40 3)))) + t75_52)) + (ixor .u32 (ixor .u32 r56 r57) (ishr .u32 t57_42 10))))) sz_301 rfl rfl rfl (hP.wr g61) ?_
    replace hP := hP.sto g61 (.int .u32 (IntKind.wrap .u32 ((IntKind.wrap .u32 ((IntKind.wrap .u32 (t62_50 + (ixor .u32 (ixor .u32 r54 r55) (ishr .u32 t53_40 3)))) + t75_52)) + (ixor .u32 (ixor .u32 r56 r57) (ishr .u32 t57_42 10)))))
    refine Kd_nil ?_
    refine JE_done ?_
    refine J_region (by decide) ?_
    refine JO_move (v := .int .i64 t4_) h4 ?_
    refine JO_iop (op := .add) (k := .i64) (a := t4_) (b := 1) rfl rfl trivial ?_
    refine JO_assign (v := .int .i64 (IntKind.wrap .i64 (t4_ + 1))) rfl ?_
    refine JO_nil ?_
    exact ⟨IntKind.wrap .i64 (t4_ + 1), _, ⟨hD, h2, rfl, hP⟩, H⟩
   ·
    replace H := H.2 hc_
    clear hc_
    refine J_exit ?_
    exact (show F392_3 K X _ _ from ⟨a2_, _, hD, h2, hP, H⟩)
  ·
   rintro e Mp ⟨a2_, M, hD, h2, hP, H⟩
   unfold S392_3 at H
   refine J_seq ?_
   refine J_region (by decide) ?_
   obtain ⟨xs62, g63, g64, H⟩ := H
   refine JO_loadAgg (p := a2_) (cs := xs62) (ag_450.trans g63.symm) (by rw [g63]; decide) h2 (fun i v hv => hP.cel (g64 i v hv)) ?_
   obtain ⟨g66, g67, g65, H⟩ := H
   refine JO_storeAgg (p := a2_) (cs := xs62) (by rw [g66]; exact sz_450) h2 rfl g67 (hP.wrs g65) ?_
   replace hP := hP.stos xs62 g65
   refine JO_nil ?_
   obtain ⟨xs68, g69, g70, H⟩ := H
   exact J_ret (kret (pan := X)  hD (fun _ _ hb => hP.sub hb) (resOk (rs := [.cell 2 450]) (vs := [.agg xs68.toArray]) rfl ⟨item_cellAgg (p := a2_) (cs := xs68) (ag_450.trans g69.symm) (by rw [g69]; decide) (by exact h2) (fun i v hv => hP.cel (g70 i v hv)), trivial⟩) ⟨xs68, rfl, H⟩)

end Go.Proofs.YtdndpmlapcbjaaaGreat

/- Walks through functions of the program: what each computes, told over that view of memory; each with the conditions that it tells. -/
import Derived.Test.YtpiidmgenkjiiaaGreatProg
import Derived.Test.YtpiidmgenkjiiaaGreatVb
set_option maxRecDepth 100000
set_option maxHeartbeats 4000000
namespace Go.Ab
open Go.Proofs
theorem sqrtX (x : Nat) : AExt Tryz.prog 147 [.float .f64 x] (.float .f64 (fsqrt .f64 x)) :=
  AExt_of (e := Extern.MathSqrt.sqrt) Tryz.func147 rfl rfl rfl rfl fun w cargs h => ext_sqrt x w cargs h
theorem within_ok (p : Int) (lo : Int) (hi : Int) (H : AH)  : ACalls Tryz.prog 56 [iv p, iv lo, iv hi] H
  (fun r H' => ((lo ≤ p ∧ p ≤ hi) ∧ r = yes ∧ SepL H [] H') ∨ ((¬(lo ≤ p ∧ p ≤ hi)) ∧ r = no ∧ SepL H [] H')) := by
 refine ACalls_of Tryz.func56 rfl (Nat.le_of_ble_eq_true rfl) ?_
 obtain ⟨H0, hH0⟩ : ∃ H0, H0 = H := ⟨_, rfl⟩
 have hS : SepL H0 [] H := hH0 ▸ SepL.refl H
 subst hH0
 refine AWp_seq ?_
 refine AWp_E rfl ?_
 refine ed no rfl rfl (dv_assign rfl) ?_
 refine E_nil ?_
 refine th_norm ?_
 refine AWp_seq ?_
 refine AWp_E rfl ?_
 refine ed (iv p) rfl rfl (dv_move rfl) ?_
 refine ed (iv lo) rfl rfl (dv_move rfl) ?_
 rcases Decidable.em ((lo : Int) ≤ p) with hc1 | hc1
 ·
  refine ed yes rfl rfl (dv_bin rfl rfl (bi_geq_t hc1)) ?_
  refine ed yes rfl rfl (dv_move rfl) ?_
  refine ed (iv p) rfl rfl (dv_move rfl) ?_
  refine ed (iv hi) rfl rfl (dv_move rfl) ?_
  rcases Decidable.em ((p : Int) ≤ hi) with hc2 | hc2
  ·
   refine ed yes rfl rfl (dv_bin rfl rfl (bi_leq_t hc2)) ?_
   refine ed yes rfl rfl (dv_pick (t := true) rfl rfl) ?_
   refine ed yes rfl rfl (dv_assign rfl) ?_
   refine E_nil ?_
   refine th_norm ?_
   refine AWp_ret (?_)
   refine ret_of ?_
   refine readsRes_of (rs := [.tmp 6]) (vs := [yes]) rfl (re_cons (re_tmp rfl) (re_nil)) rfl ?_
   refine .inl ?_
   refine ⟨?_, rfl, .base hS.keep⟩
   · first | assumption | omega | (simp_all; done) | (simp_all; omega)
  ·
   refine ed no rfl rfl (dv_bin rfl rfl (bi_leq_f hc2)) ?_
   refine ed no rfl rfl (dv_pick (t := true) rfl rfl) ?_
   refine ed no rfl rfl (dv_assign rfl) ?_
   refine E_nil ?_
   refine th_norm ?_
   refine AWp_ret (?_)
   refine ret_of ?_
   refine readsRes_of (rs := [.tmp 6]) (vs := [no]) rfl (re_cons (re_tmp rfl) (re_nil)) rfl ?_
   refine .inr (?_)
   refine ⟨?_, rfl, .base hS.keep⟩
   · first | assumption | omega | (simp_all; done) | (simp_all; omega)
 ·
  refine ed no rfl rfl (dv_bin rfl rfl (bi_geq_f hc1)) ?_
  refine ed no rfl rfl (dv_move rfl) ?_
  refine E_skip rfl rfl ?_
  refine E_skip rfl rfl ?_
  refine E_skip rfl rfl ?_
  refine ed no rfl rfl (dv_pick (t := false) rfl rfl) ?_
  refine ed no rfl rfl (dv_assign rfl) ?_
  refine E_nil ?_
  refine th_norm ?_
  refine AWp_ret (?_)
  refine ret_of ?_
  refine readsRes_of (rs := [.tmp 6]) (vs := [no]) rfl (re_cons (re_tmp rfl) (re_nil)) rfl ?_
  refine .inr (?_)
  refine ⟨?_, rfl, .base hS.keep⟩
  · first | assumption | omega | (simp_all; done) | (simp_all; omega)
theorem l00In_ok (p : Int) (lo : Int) (hi : Int) (H : AH)  : ACalls Tryz.prog 48 [iv p, iv lo, iv hi] H
  (fun r H' => ((lo ≤ p ∧ p ≤ hi) ∧ r = yes ∧ SepL H [] H') ∨ ((¬(lo ≤ p ∧ p ≤ hi)) ∧ r = no ∧ SepL H [] H')) := by
 refine ACalls_of Tryz.func48 rfl (Nat.le_of_ble_eq_true rfl) ?_
 obtain ⟨H0, hH0⟩ : ∃ H0, H0 = H := ⟨_, rfl⟩
 have hS : SepL H0 [] H := hH0 ▸ SepL.refl H
 subst hH0
 refine AWp_seq ?_
 refine AWp_E rfl ?_
 refine ed no rfl rfl (dv_assign rfl) ?_
 refine E_nil ?_
 refine th_norm ?_
 refine AWp_seq ?_
 refine AWp_E rfl ?_
 refine ed (iv p) rfl rfl (dv_move rfl) ?_
 refine ed (iv lo) rfl rfl (dv_move rfl) ?_
 rcases Decidable.em ((lo : Int) ≤ p) with hc1 | hc1
 ·
  refine ed yes rfl rfl (dv_bin rfl rfl (bi_geq_t hc1)) ?_
  refine ed yes rfl rfl (dv_move rfl) ?_
  refine ed (iv p) rfl rfl (dv_move rfl) ?_
  refine ed (iv hi) rfl rfl (dv_move rfl) ?_
  rcases Decidable.em ((p : Int) ≤ hi) with hc2 | hc2
  ·
   refine ed yes rfl rfl (dv_bin rfl rfl (bi_leq_t hc2)) ?_
   refine ed yes rfl rfl (dv_pick (t := true) rfl rfl) ?_
   refine ed yes rfl rfl (dv_assign rfl) ?_
   refine E_nil ?_
   refine th_norm ?_
   refine AWp_ret (?_)
   refine ret_of ?_
   refine readsRes_of (rs := [.tmp 6]) (vs := [yes]) rfl (re_cons (re_tmp rfl) (re_nil)) rfl ?_
   refine .inl ?_
   refine ⟨?_, rfl, .base hS.keep⟩
   · first | assumption | omega | (simp_all; done) | (simp_all; omega)
  ·
   refine ed no rfl rfl (dv_bin rfl rfl (bi_leq_f hc2)) ?_
   refine ed no rfl rfl (dv_pick (t := true) rfl rfl) ?_
   refine ed no rfl rfl (dv_assign rfl) ?_
   refine E_nil ?_
   refine th_norm ?_
   refine AWp_ret (?_)
   refine ret_of ?_
   refine readsRes_of (rs := [.tmp 6]) (vs := [no]) rfl (re_cons (re_tmp rfl) (re_nil)) rfl ?_
   refine .inr (?_)
   refine ⟨?_, rfl, .base hS.keep⟩
   · first | assumption | omega | (simp_all; done) | (simp_all; omega)
 ·
  refine ed no rfl rfl (dv_bin rfl rfl (bi_geq_f hc1)) ?_
  refine ed no rfl rfl (dv_move rfl) ?_
  refine E_skip rfl rfl ?_
  refine E_skip rfl rfl ?_
  refine E_skip rfl rfl ?_
  refine ed no rfl rfl (dv_pick (t := false) rfl rfl) ?_
  refine ed no rfl rfl (dv_assign rfl) ?_
  refine E_nil ?_
  refine th_norm ?_
  refine AWp_ret (?_)
  refine ret_of ?_
  refine readsRes_of (rs := [.tmp 6]) (vs := [no]) rfl (re_cons (re_tmp rfl) (re_nil)) rfl ?_
  refine .inr (?_)
  refine ⟨?_, rfl, .base hS.keep⟩
  · first | assumption | omega | (simp_all; done) | (simp_all; omega)
theorem l00Min_ok (x : Int) (y : Int) (H : AH)  : ACalls Tryz.prog 148 [iv x, iv y] H
  (fun r H' => ∃ (v_ : Int), min x y = v_ ∧ r = iv v_ ∧ SepL H [] H') := by
 refine ACalls_of Tryz.func148 rfl (Nat.le_of_ble_eq_true rfl) ?_
 obtain ⟨H0, hH0⟩ : ∃ H0, H0 = H := ⟨_, rfl⟩
 have hS : SepL H0 [] H := hH0 ▸ SepL.refl H
 subst hH0
 refine AWp_seq ?_
 refine AWp_E rfl ?_
 refine ed (iv 0) rfl rfl (dv_assign rfl) ?_
 refine E_nil ?_
 refine th_norm ?_
 refine AWp_seq ?_
 refine AWp_seq ?_
 refine AWp_E rfl ?_
 refine ed (iv x) rfl rfl (dv_move rfl) ?_
 refine ed (iv y) rfl rfl (dv_move rfl) ?_
 rcases Decidable.em ((x : Int) < y) with hc1 | hc1
 ·
  refine ed yes rfl rfl (dv_bin rfl rfl (bi_lss_t hc1)) ?_
  refine E_nil ?_
  refine th_norm ?_
  refine AWp_cond (t := true) rfl (fun _ => ?_) nofun
  refine AWp_seq ?_
  refine AWp_E rfl ?_
  refine ed (iv x) rfl rfl (dv_move rfl) ?_
  refine ed (iv x) rfl rfl (dv_assign rfl) ?_
  refine E_nil ?_
  refine th_norm ?_
  refine AWp_ret (th_ret (?_))
  refine ret_of ?_
  refine readsRes_of (rs := [.tmp 4]) (vs := [iv x]) rfl (re_cons (re_tmp rfl) (re_nil)) rfl ?_
  refine ⟨x, ?_, rfl, .base hS.keep⟩
  · first | rfl | omega | (simp [*]; done)
 ·
  refine ed no rfl rfl (dv_bin rfl rfl (bi_lss_f hc1)) ?_
  refine E_nil ?_
  refine th_norm ?_
  refine AWp_cond (t := false) rfl nofun (fun _ => ?_)
  refine AWp_skip ?_
  refine th_norm ?_
  refine AWp_seq ?_
  refine AWp_E rfl ?_
  refine ed (iv y) rfl rfl (dv_move rfl) ?_
  refine ed (iv y) rfl rfl (dv_assign rfl) ?_
  refine E_nil ?_
  refine th_norm ?_
  refine AWp_ret (?_)
  refine ret_of ?_
  refine readsRes_of (rs := [.tmp 4]) (vs := [iv y]) rfl (re_cons (re_tmp rfl) (re_nil)) rfl ?_
  refine ⟨y, ?_, rfl, .base hS.keep⟩
  · first | rfl | omega | (simp [*]; done)
theorem l00Max_ok (x : Int) (y : Int) (H : AH)  : ACalls Tryz.prog 149 [iv x, iv y] H
  (fun r H' => ∃ (v_ : Int), max x y = v_ ∧ r = iv v_ ∧ SepL H [] H') := by
 refine ACalls_of Tryz.func149 rfl (Nat.le_of_ble_eq_true rfl) ?_
 obtain ⟨H0, hH0⟩ : ∃ H0, H0 = H := ⟨_, rfl⟩
 have hS : SepL H0 [] H := hH0 ▸ SepL.refl H
 subst hH0
 refine AWp_seq ?_
 refine AWp_E rfl ?_
 refine ed (iv 0) rfl rfl (dv_assign rfl) ?_
 refine E_nil ?_
 refine th_norm ?_
 refine AWp_seq ?_
 refine AWp_seq ?_
 refine AWp_E rfl ?_
 refine ed (iv x) rfl rfl (dv_move rfl) ?_
 refine ed (iv y) rfl rfl (dv_move rfl) ?_
 rcases Decidable.em ((y : Int) < x) with hc1 | hc1
 ·
  refine ed yes rfl rfl (dv_bin rfl rfl (bi_gtr_t hc1)) ?_
  refine E_nil ?_
  refine th_norm ?_
  refine AWp_cond (t := true) rfl (fun _ => ?_) nofun
  refine AWp_seq ?_
  refine AWp_E rfl ?_
  refine ed (iv x) rfl rfl (dv_move rfl) ?_
  refine ed (iv x) rfl rfl (dv_assign rfl) ?_
  refine E_nil ?_
  refine th_norm ?_
  refine AWp_ret (th_ret (?_))
  refine ret_of ?_
  refine readsRes_of (rs := [.tmp 4]) (vs := [iv x]) rfl (re_cons (re_tmp rfl) (re_nil)) rfl ?_
  refine ⟨x, ?_, rfl, .base hS.keep⟩
  · first | rfl | omega | (simp [*]; done)
 ·
  refine ed no rfl rfl (dv_bin rfl rfl (bi_gtr_f hc1)) ?_
  refine E_nil ?_
  refine th_norm ?_
  refine AWp_cond (t := false) rfl nofun (fun _ => ?_)
  refine AWp_skip ?_
  refine th_norm ?_
  refine AWp_seq ?_
  refine AWp_E rfl ?_
  refine ed (iv y) rfl rfl (dv_move rfl) ?_
  refine ed (iv y) rfl rfl (dv_assign rfl) ?_
  refine E_nil ?_
  refine th_norm ?_
  refine AWp_ret (?_)
  refine ret_of ?_
  refine readsRes_of (rs := [.tmp 4]) (vs := [iv y]) rfl (re_cons (re_tmp rfl) (re_nil)) rfl ?_
  refine ⟨y, ?_, rfl, .base hS.keep⟩
  · first | rfl | omega | (simp [*]; done)
theorem edgeOf_ok (x : Int) (y : Int) (H : AH)  : ACalls Tryz.prog 151 [iv x, iv y] H
  (fun r H' => ∃ (v_ : Int × Int), (min x y, max x y) = v_ ∧ r = .agg #[iv v_.1, iv v_.2] ∧ SepL H [] H') := by
 refine ACalls_of Tryz.func151 rfl (Nat.le_of_ble_eq_true rfl) ?_
 obtain ⟨H0, hH0⟩ : ∃ H0, H0 = H := ⟨_, rfl⟩
 have hS : SepL H0 [] H := hH0 ▸ SepL.refl H
 subst hH0
 refine AWp_seq ?_
 refine AWp_E rfl ?_
 refine S_box (l := [iv 0, iv 0]) hS rfl rfl rfl rfl rfl fun b1 H hS => ?_
 refine E_nil ?_
 refine th_norm ?_
 refine AWp_seq ?_
 refine AWp_E rfl ?_
 refine ed (iv x) rfl rfl (dv_move rfl) ?_
 refine ed (iv y) rfl rfl (dv_move rfl) ?_
 refine ed (iv (min x y)) rfl rfl (dv_min (a := x) (b := y) rfl rfl rfl rfl) ?_
 refine ed (iv x) rfl rfl (dv_move rfl) ?_
 refine ed (iv y) rfl rfl (dv_move rfl) ?_
 refine ed (iv (max x y)) rfl rfl (dv_max (a := x) (b := y) rfl rfl rfl rfl) ?_
 refine ed (.agg #[iv (min x y), iv (max x y)]) rfl rfl (dv_buildZ (vs := [(0, iv (min x y)), (1, iv (max x y))]) rfl rfl rfl rfl rfl rfl) ?_
 refine S_store (i := 0) (yv := .agg #[iv (min x y), iv (max x y)]) (l' := [iv (min x y), iv (max x y)]) hS rfl rfl rfl rfl rfl rfl rfl rfl rfl rfl rfl rfl fun H hS => ?_
 refine E_nil ?_
 refine th_norm ?_
 refine AWp_ret (?_)
 refine ret_of ?_
 refine readsRes_of (rs := [.cell 4 159]) (vs := [.agg #[iv (min x y), iv (max x y)]]) rfl (re_cons (re_cell (p := pt b1 0) rfl (ld_boxA (n := 2) (hS.box 0 rfl) rfl rfl (Nat.le_of_ble_eq_true rfl) rfl)) (re_nil)) rfl ?_
 refine ⟨(⟨min x y, max x y⟩ : Int × Int), ?_, rfl, .base hS.keep⟩
 · first | rfl | omega | (simp [*]; done)
theorem LessVectors_ok (x : V3) (y : V3) (H : AH)  : ACalls Tryz.prog 78 [va x, va y] H
  (fun r H' => ∃ (v_ : V3), vsub x y = v_ ∧ r = va v_ ∧ SepL H [] H') := by
 refine ACalls_of Tryz.func78 rfl (Nat.le_of_ble_eq_true rfl) ?_
 obtain ⟨H0, hH0⟩ : ∃ H0, H0 = H := ⟨_, rfl⟩
 have hS : SepL H0 [] H := hH0 ▸ SepL.refl H
 subst hH0
 refine AWp_seq ?_
 refine AWp_E rfl ?_
 refine S_box (l := [fl x.x, fl x.y, fl x.z]) hS rfl rfl rfl rfl rfl fun b1 H hS => ?_
 refine S_box (l := [fl y.x, fl y.y, fl y.z]) hS rfl rfl rfl rfl rfl fun b2 H hS => ?_
 refine S_box (l := [fl 0, fl 0, fl 0]) hS rfl rfl rfl rfl rfl fun b3 H hS => ?_
 refine E_nil ?_
 refine th_norm ?_
 refine AWp_seq ?_
 refine AWp_E rfl ?_
 refine ed (pt b1 0) rfl rfl (dv_fieldAddr rfl rfl) ?_
 refine ed (fl x.x) rfl rfl (dv_load rfl (ld_box (hS.box 0 rfl) rfl rfl rfl)) ?_
 refine ed (pt b2 0) rfl rfl (dv_fieldAddr rfl rfl) ?_
 refine ed (fl y.x) rfl rfl (dv_load rfl (ld_box (hS.box 1 rfl) rfl rfl rfl)) ?_
 refine ed (fl (fop .sub .f32 x.x y.x)) rfl rfl (dv_bin rfl rfl rfl) ?_
 refine ed (pt b1 1) rfl rfl (dv_fieldAddr rfl rfl) ?_
 refine ed (fl x.y) rfl rfl (dv_load rfl (ld_box (hS.box 0 rfl) rfl rfl rfl)) ?_
 refine ed (pt b2 1) rfl rfl (dv_fieldAddr rfl rfl) ?_
 refine ed (fl y.y) rfl rfl (dv_load rfl (ld_box (hS.box 1 rfl) rfl rfl rfl)) ?_
 refine ed (fl (fop .sub .f32 x.y y.y)) rfl rfl (dv_bin rfl rfl rfl) ?_
 refine ed (pt b1 2) rfl rfl (dv_fieldAddr rfl rfl) ?_
 refine ed (fl x.z) rfl rfl (dv_load rfl (ld_box (hS.box 0 rfl) rfl rfl rfl)) ?_
 refine ed (pt b2 2) rfl rfl (dv_fieldAddr rfl rfl) ?_
 refine ed (fl y.z) rfl rfl (dv_load rfl (ld_box (hS.box 1 rfl) rfl rfl rfl)) ?_
 refine ed (fl (fop .sub .f32 x.z y.z)) rfl rfl (dv_bin rfl rfl rfl) ?_
 refine ed (.agg #[fl (fop .sub .f32 x.x y.x), fl (fop .sub .f32 x.y y.y), fl (fop .sub .f32 x.z y.z)]) rfl rfl (dv_buildZ (vs := [(0, fl (fop .sub .f32 x.x y.x)), (1, fl (fop .sub .f32 x.y y.y)), (2, fl (fop .sub .f32 x.z y.z))]) rfl rfl rfl rfl rfl rfl) ?_
 refine S_store (i := 2) (yv := .agg #[fl (fop .sub .f32 x.x y.x), fl (fop .sub .f32 x.y y.y), fl (fop .sub .f32 x.z y.z)]) (l' := [fl (fop .sub .f32 x.x y.x), fl (fop .sub .f32 x.y y.y), fl (fop .sub .f32 x.z y.z)]) hS rfl rfl rfl rfl rfl rfl rfl rfl rfl rfl rfl rfl fun H hS => ?_
 refine E_nil ?_
 refine th_norm ?_
 refine AWp_ret (?_)
 refine ret_of ?_
 refine readsRes_of (rs := [.cell 4 41]) (vs := [.agg #[fl (fop .sub .f32 x.x y.x), fl (fop .sub .f32 x.y y.y), fl (fop .sub .f32 x.z y.z)]]) rfl (re_cons (re_cell (p := pt b3 0) rfl (ld_boxA (n := 3) (hS.box 2 rfl) rfl rfl (Nat.le_of_ble_eq_true rfl) rfl)) (re_nil)) rfl ?_
 refine ⟨(⟨fop .sub .f32 x.x y.x, fop .sub .f32 x.y y.y, fop .sub .f32 x.z y.z⟩ : V3), ?_, rfl, .base hS.keep⟩
 · first | rfl | omega | (simp [*]; done)
theorem l01Less_ok (x : V3) (y : V3) (H : AH)  : ACalls Tryz.prog 104 [va x, va y] H
  (fun r H' => ∃ (v_ : V3), vsub x y = v_ ∧ r = va v_ ∧ SepL H [] H') := by
 refine ACalls_of Tryz.func104 rfl (Nat.le_of_ble_eq_true rfl) ?_
 obtain ⟨H0, hH0⟩ : ∃ H0, H0 = H := ⟨_, rfl⟩
 have hS : SepL H0 [] H := hH0 ▸ SepL.refl H
 subst hH0
 refine AWp_seq ?_
 refine AWp_E rfl ?_
 refine S_box (l := [fl x.x, fl x.y, fl x.z]) hS rfl rfl rfl rfl rfl fun b1 H hS => ?_
 refine S_box (l := [fl y.x, fl y.y, fl y.z]) hS rfl rfl rfl rfl rfl fun b2 H hS => ?_
 refine S_box (l := [fl 0, fl 0, fl 0]) hS rfl rfl rfl rfl rfl fun b3 H hS => ?_
 refine E_nil ?_
 refine th_norm ?_
 refine AWp_seq ?_
 refine AWp_E rfl ?_
 refine ed (pt b1 0) rfl rfl (dv_fieldAddr rfl rfl) ?_
 refine ed (fl x.x) rfl rfl (dv_load rfl (ld_box (hS.box 0 rfl) rfl rfl rfl)) ?_
 refine ed (pt b2 0) rfl rfl (dv_fieldAddr rfl rfl) ?_
 refine ed (fl y.x) rfl rfl (dv_load rfl (ld_box (hS.box 1 rfl) rfl rfl rfl)) ?_
 refine ed (fl (fop .sub .f32 x.x y.x)) rfl rfl (dv_bin rfl rfl rfl) ?_
 refine ed (pt b1 1) rfl rfl (dv_fieldAddr rfl rfl) ?_
 refine ed (fl x.y) rfl rfl (dv_load rfl (ld_box (hS.box 0 rfl) rfl rfl rfl)) ?_
 refine ed (pt b2 1) rfl rfl (dv_fieldAddr rfl rfl) ?_
 refine ed (fl y.y) rfl rfl (dv_load rfl (ld_box (hS.box 1 rfl) rfl rfl rfl)) ?_
 refine ed (fl (fop .sub .f32 x.y y.y)) rfl rfl (dv_bin rfl rfl rfl) ?_
 refine ed (pt b1 2) rfl rfl (dv_fieldAddr rfl rfl) ?_
 refine ed (fl x.z) rfl rfl (dv_load rfl (ld_box (hS.box 0 rfl) rfl rfl rfl)) ?_
 refine ed (pt b2 2) rfl rfl (dv_fieldAddr rfl rfl) ?_
 refine ed (fl y.z) rfl rfl (dv_load rfl (ld_box (hS.box 1 rfl) rfl rfl rfl)) ?_
 refine ed (fl (fop .sub .f32 x.z y.z)) rfl rfl (dv_bin rfl rfl rfl) ?_
 refine ed (.agg #[fl (fop .sub .f32 x.x y.x), fl (fop .sub .f32 x.y y.y), fl (fop .sub .f32 x.z y.z)]) rfl rfl (dv_buildZ (vs := [(0, fl (fop .sub .f32 x.x y.x)), (1, fl (fop .sub .f32 x.y y.y)), (2, fl (fop .sub .f32 x.z y.z))]) rfl rfl rfl rfl rfl rfl) ?_
 refine S_store (i := 2) (yv := .agg #[fl (fop .sub .f32 x.x y.x), fl (fop .sub .f32 x.y y.y), fl (fop .sub .f32 x.z y.z)]) (l' := [fl (fop .sub .f32 x.x y.x), fl (fop .sub .f32 x.y y.y), fl (fop .sub .f32 x.z y.z)]) hS rfl rfl rfl rfl rfl rfl rfl rfl rfl rfl rfl rfl fun H hS => ?_
 refine E_nil ?_
 refine th_norm ?_
 refine AWp_ret (?_)
 refine ret_of ?_
 refine readsRes_of (rs := [.cell 4 41]) (vs := [.agg #[fl (fop .sub .f32 x.x y.x), fl (fop .sub .f32 x.y y.y), fl (fop .sub .f32 x.z y.z)]]) rfl (re_cons (re_cell (p := pt b3 0) rfl (ld_boxA (n := 3) (hS.box 2 rfl) rfl rfl (Nat.le_of_ble_eq_true rfl) rfl)) (re_nil)) rfl ?_
 refine ⟨(⟨fop .sub .f32 x.x y.x, fop .sub .f32 x.y y.y, fop .sub .f32 x.z y.z⟩ : V3), ?_, rfl, .base hS.keep⟩
 · first | rfl | omega | (simp [*]; done)
theorem AddVectors_ok (x : V3) (y : V3) (H : AH)  : ACalls Tryz.prog 97 [va x, va y] H
  (fun r H' => ∃ (v_ : V3), vadd x y = v_ ∧ r = va v_ ∧ SepL H [] H') := by
 refine ACalls_of Tryz.func97 rfl (Nat.le_of_ble_eq_true rfl) ?_
 obtain ⟨H0, hH0⟩ : ∃ H0, H0 = H := ⟨_, rfl⟩
 have hS : SepL H0 [] H := hH0 ▸ SepL.refl H
 subst hH0
 refine AWp_seq ?_
 refine AWp_E rfl ?_
 refine S_box (l := [fl x.x, fl x.y, fl x.z]) hS rfl rfl rfl rfl rfl fun b1 H hS => ?_
 refine S_box (l := [fl y.x, fl y.y, fl y.z]) hS rfl rfl rfl rfl rfl fun b2 H hS => ?_
 refine S_box (l := [fl 0, fl 0, fl 0]) hS rfl rfl rfl rfl rfl fun b3 H hS => ?_
 refine E_nil ?_
 refine th_norm ?_
 refine AWp_seq ?_
 refine AWp_E rfl ?_
 refine ed (pt b1 0) rfl rfl (dv_fieldAddr rfl rfl) ?_
 refine ed (fl x.x) rfl rfl (dv_load rfl (ld_box (hS.box 0 rfl) rfl rfl rfl)) ?_
 refine ed (pt b2 0) rfl rfl (dv_fieldAddr rfl rfl) ?_
 refine ed (fl y.x) rfl rfl (dv_load rfl (ld_box (hS.box 1 rfl) rfl rfl rfl)) ?_
 refine ed (fl (fop .add .f32 x.x y.x)) rfl rfl (dv_bin rfl rfl rfl) ?_
 refine ed (pt b1 1) rfl rfl (dv_fieldAddr rfl rfl) ?_
 refine ed (fl x.y) rfl rfl (dv_load rfl (ld_box (hS.box 0 rfl) rfl rfl rfl)) ?_
 refine ed (pt b2 1) rfl rfl (dv_fieldAddr rfl rfl) ?_
 refine ed (fl y.y) rfl rfl (dv_load rfl (ld_box (hS.box 1 rfl) rfl rfl rfl)) ?_
 refine ed (fl (fop .add .f32 x.y y.y)) rfl rfl (dv_bin rfl rfl rfl) ?_
 refine ed (pt b1 2) rfl rfl (dv_fieldAddr rfl rfl) ?_
 refine ed (fl x.z) rfl rfl (dv_load rfl (ld_box (hS.box 0 rfl) rfl rfl rfl)) ?_
 refine ed (pt b2 2) rfl rfl (dv_fieldAddr rfl rfl) ?_
 refine ed (fl y.z) rfl rfl (dv_load rfl (ld_box (hS.box 1 rfl) rfl rfl rfl)) ?_
 refine ed (fl (fop .add .f32 x.z y.z)) rfl rfl (dv_bin rfl rfl rfl) ?_
 refine ed (.agg #[fl (fop .add .f32 x.x y.x), fl (fop .add .f32 x.y y.y), fl (fop .add .f32 x.z y.z)]) rfl rfl (dv_buildZ (vs := [(0, fl (fop .add .f32 x.x y.x)), (1, fl (fop .add .f32 x.y y.y)), (2, fl (fop .add .f32 x.z y.z))]) rfl rfl rfl rfl rfl rfl) ?_
 refine S_store (i := 2) (yv := .agg #[fl (fop .add .f32 x.x y.x), fl (fop .add .f32 x.y y.y), fl (fop .add .f32 x.z y.z)]) (l' := [fl (fop .add .f32 x.x y.x), fl (fop .add .f32 x.y y.y), fl (fop .add .f32 x.z y.z)]) hS rfl rfl rfl rfl rfl rfl rfl rfl rfl rfl rfl rfl fun H hS => ?_
 refine E_nil ?_
 refine th_norm ?_
 refine AWp_ret (?_)
 refine ret_of ?_
 refine readsRes_of (rs := [.cell 4 41]) (vs := [.agg #[fl (fop .add .f32 x.x y.x), fl (fop .add .f32 x.y y.y), fl (fop .add .f32 x.z y.z)]]) rfl (re_cons (re_cell (p := pt b3 0) rfl (ld_boxA (n := 3) (hS.box 2 rfl) rfl rfl (Nat.le_of_ble_eq_true rfl) rfl)) (re_nil)) rfl ?_
 refine ⟨(⟨fop .add .f32 x.x y.x, fop .add .f32 x.y y.y, fop .add .f32 x.z y.z⟩ : V3), ?_, rfl, .base hS.keep⟩
 · first | rfl | omega | (simp [*]; done)
theorem l01Add_ok (x : V3) (y : V3) (H : AH)  : ACalls Tryz.prog 88 [va x, va y] H
  (fun r H' => ∃ (v_ : V3), vadd x y = v_ ∧ r = va v_ ∧ SepL H [] H') := by
 refine ACalls_of Tryz.func88 rfl (Nat.le_of_ble_eq_true rfl) ?_
 obtain ⟨H0, hH0⟩ : ∃ H0, H0 = H := ⟨_, rfl⟩
 have hS : SepL H0 [] H := hH0 ▸ SepL.refl H
 subst hH0
 refine AWp_seq ?_
 refine AWp_E rfl ?_
 refine S_box (l := [fl x.x, fl x.y, fl x.z]) hS rfl rfl rfl rfl rfl fun b1 H hS => ?_
 refine S_box (l := [fl y.x, fl y.y, fl y.z]) hS rfl rfl rfl rfl rfl fun b2 H hS => ?_
 refine S_box (l := [fl 0, fl 0, fl 0]) hS rfl rfl rfl rfl rfl fun b3 H hS => ?_
 refine E_nil ?_
 refine th_norm ?_
 refine AWp_seq ?_
 refine AWp_E rfl ?_
 refine ed (pt b1 0) rfl rfl (dv_fieldAddr rfl rfl) ?_
 refine ed (fl x.x) rfl rfl (dv_load rfl (ld_box (hS.box 0 rfl) rfl rfl rfl)) ?_
 refine ed (pt b2 0) rfl rfl (dv_fieldAddr rfl rfl) ?_
 refine ed (fl y.x) rfl rfl (dv_load rfl (ld_box (hS.box 1 rfl) rfl rfl rfl)) ?_
 refine ed (fl (fop .add .f32 x.x y.x)) rfl rfl (dv_bin rfl rfl rfl) ?_
 refine ed (pt b1 1) rfl rfl (dv_fieldAddr rfl rfl) ?_
 refine ed (fl x.y) rfl rfl (dv_load rfl (ld_box (hS.box 0 rfl) rfl rfl rfl)) ?_
 refine ed (pt b2 1) rfl rfl (dv_fieldAddr rfl rfl) ?_
 refine ed (fl y.y) rfl rfl (dv_load rfl (ld_box (hS.box 1 rfl) rfl rfl rfl)) ?_
 refine ed (fl (fop .add .f32 x.y y.y)) rfl rfl (dv_bin rfl rfl rfl) ?_
 refine ed (pt b1 2) rfl rfl (dv_fieldAddr rfl rfl) ?_
 refine ed (fl x.z) rfl rfl (dv_load rfl (ld_box (hS.box 0 rfl) rfl rfl rfl)) ?_
 refine ed (pt b2 2) rfl rfl (dv_fieldAddr rfl rfl) ?_
 refine ed (fl y.z) rfl rfl (dv_load rfl (ld_box (hS.box 1 rfl) rfl rfl rfl)) ?_
 refine ed (fl (fop .add .f32 x.z y.z)) rfl rfl (dv_bin rfl rfl rfl) ?_
 refine ed (.agg #[fl (fop .add .f32 x.x y.x), fl (fop .add .f32 x.y y.y), fl (fop .add .f32 x.z y.z)]) rfl rfl (dv_buildZ (vs := [(0, fl (fop .add .f32 x.x y.x)), (1, fl (fop .add .f32 x.y y.y)), (2, fl (fop .add .f32 x.z y.z))]) rfl rfl rfl rfl rfl rfl) ?_
 refine S_store (i := 2) (yv := .agg #[fl (fop .add .f32 x.x y.x), fl (fop .add .f32 x.y y.y), fl (fop .add .f32 x.z y.z)]) (l' := [fl (fop .add .f32 x.x y.x), fl (fop .add .f32 x.y y.y), fl (fop .add .f32 x.z y.z)]) hS rfl rfl rfl rfl rfl rfl rfl rfl rfl rfl rfl rfl fun H hS => ?_
 refine E_nil ?_
 refine th_norm ?_
 refine AWp_ret (?_)
 refine ret_of ?_
 refine readsRes_of (rs := [.cell 4 41]) (vs := [.agg #[fl (fop .add .f32 x.x y.x), fl (fop .add .f32 x.y y.y), fl (fop .add .f32 x.z y.z)]]) rfl (re_cons (re_cell (p := pt b3 0) rfl (ld_boxA (n := 3) (hS.box 2 rfl) rfl rfl (Nat.le_of_ble_eq_true rfl) rfl)) (re_nil)) rfl ?_
 refine ⟨(⟨fop .add .f32 x.x y.x, fop .add .f32 x.y y.y, fop .add .f32 x.z y.z⟩ : V3), ?_, rfl, .base hS.keep⟩
 · first | rfl | omega | (simp [*]; done)
theorem ScaleVector_ok (x : V3) (k : Nat) (H : AH)  : ACalls Tryz.prog 79 [va x, fl k] H
  (fun r H' => ∃ (v_ : V3), vscale x k = v_ ∧ r = va v_ ∧ SepL H [] H') := by
 refine ACalls_of Tryz.func79 rfl (Nat.le_of_ble_eq_true rfl) ?_
 obtain ⟨H0, hH0⟩ : ∃ H0, H0 = H := ⟨_, rfl⟩
 have hS : SepL H0 [] H := hH0 ▸ SepL.refl H
 subst hH0
 refine AWp_seq ?_
 refine AWp_E rfl ?_
 refine S_box (l := [fl x.x, fl x.y, fl x.z]) hS rfl rfl rfl rfl rfl fun b1 H hS => ?_
 refine S_box (l := [fl 0, fl 0, fl 0]) hS rfl rfl rfl rfl rfl fun b2 H hS => ?_
 refine E_nil ?_
 refine th_norm ?_
 refine AWp_seq ?_
 refine AWp_E rfl ?_
 refine ed (pt b1 0) rfl rfl (dv_fieldAddr rfl rfl) ?_
 refine ed (fl x.x) rfl rfl (dv_load rfl (ld_box (hS.box 0 rfl) rfl rfl rfl)) ?_
 refine ed (fl k) rfl rfl (dv_move rfl) ?_
 refine ed (fl (fop .mul .f32 x.x k)) rfl rfl (dv_bin rfl rfl rfl) ?_
 refine ed (pt b1 1) rfl rfl (dv_fieldAddr rfl rfl) ?_
 refine ed (fl x.y) rfl rfl (dv_load rfl (ld_box (hS.box 0 rfl) rfl rfl rfl)) ?_
 refine ed (fl k) rfl rfl (dv_move rfl) ?_
 refine ed (fl (fop .mul .f32 x.y k)) rfl rfl (dv_bin rfl rfl rfl) ?_
 refine ed (pt b1 2) rfl rfl (dv_fieldAddr rfl rfl) ?_
 refine ed (fl x.z) rfl rfl (dv_load rfl (ld_box (hS.box 0 rfl) rfl rfl rfl)) ?_
 refine ed (fl k) rfl rfl (dv_move rfl) ?_
 refine ed (fl (fop .mul .f32 x.z k)) rfl rfl (dv_bin rfl rfl rfl) ?_
 refine ed (.agg #[fl (fop .mul .f32 x.x k), fl (fop .mul .f32 x.y k), fl (fop .mul .f32 x.z k)]) rfl rfl (dv_buildZ (vs := [(0, fl (fop .mul .f32 x.x k)), (1, fl (fop .mul .f32 x.y k)), (2, fl (fop .mul .f32 x.z k))]) rfl rfl rfl rfl rfl rfl) ?_
 refine S_store (i := 1) (yv := .agg #[fl (fop .mul .f32 x.x k), fl (fop .mul .f32 x.y k), fl (fop .mul .f32 x.z k)]) (l' := [fl (fop .mul .f32 x.x k), fl (fop .mul .f32 x.y k), fl (fop .mul .f32 x.z k)]) hS rfl rfl rfl rfl rfl rfl rfl rfl rfl rfl rfl rfl fun H hS => ?_
 refine E_nil ?_
 refine th_norm ?_
 refine AWp_ret (?_)
 refine ret_of ?_
 refine readsRes_of (rs := [.cell 4 41]) (vs := [.agg #[fl (fop .mul .f32 x.x k), fl (fop .mul .f32 x.y k), fl (fop .mul .f32 x.z k)]]) rfl (re_cons (re_cell (p := pt b2 0) rfl (ld_boxA (n := 3) (hS.box 1 rfl) rfl rfl (Nat.le_of_ble_eq_true rfl) rfl)) (re_nil)) rfl ?_
 refine ⟨(⟨fop .mul .f32 x.x k, fop .mul .f32 x.y k, fop .mul .f32 x.z k⟩ : V3), ?_, rfl, .base hS.keep⟩
 · first | rfl | omega | (simp [*]; done)
theorem l01Scale_ok (x : V3) (k : Nat) (H : AH)  : ACalls Tryz.prog 89 [va x, fl k] H
  (fun r H' => ∃ (v_ : V3), vscale x k = v_ ∧ r = va v_ ∧ SepL H [] H') := by
 refine ACalls_of Tryz.func89 rfl (Nat.le_of_ble_eq_true rfl) ?_
 obtain ⟨H0, hH0⟩ : ∃ H0, H0 = H := ⟨_, rfl⟩
 have hS : SepL H0 [] H := hH0 ▸ SepL.refl H
 subst hH0
 refine AWp_seq ?_
 refine AWp_E rfl ?_
 refine S_box (l := [fl x.x, fl x.y, fl x.z]) hS rfl rfl rfl rfl rfl fun b1 H hS => ?_
 refine S_box (l := [fl 0, fl 0, fl 0]) hS rfl rfl rfl rfl rfl fun b2 H hS => ?_
 refine E_nil ?_
 refine th_norm ?_
 refine AWp_seq ?_
 refine AWp_E rfl ?_
 refine ed (pt b1 0) rfl rfl (dv_fieldAddr rfl rfl) ?_
 refine ed (fl x.x) rfl rfl (dv_load rfl (ld_box (hS.box 0 rfl) rfl rfl rfl)) ?_
 refine ed (fl k) rfl rfl (dv_move rfl) ?_
 refine ed (fl (fop .mul .f32 x.x k)) rfl rfl (dv_bin rfl rfl rfl) ?_
 refine ed (pt b1 1) rfl rfl (dv_fieldAddr rfl rfl) ?_
 refine ed (fl x.y) rfl rfl (dv_load rfl (ld_box (hS.box 0 rfl) rfl rfl rfl)) ?_
 refine ed (fl k) rfl rfl (dv_move rfl) ?_
 refine ed (fl (fop .mul .f32 x.y k)) rfl rfl (dv_bin rfl rfl rfl) ?_
 refine ed (pt b1 2) rfl rfl (dv_fieldAddr rfl rfl) ?_
 refine ed (fl x.z) rfl rfl (dv_load rfl (ld_box (hS.box 0 rfl) rfl rfl rfl)) ?_
 refine ed (fl k) rfl rfl (dv_move rfl) ?_
 refine ed (fl (fop .mul .f32 x.z k)) rfl rfl (dv_bin rfl rfl rfl) ?_
 refine ed (.agg #[fl (fop .mul .f32 x.x k), fl (fop .mul .f32 x.y k), fl (fop .mul .f32 x.z k)]) rfl rfl (dv_buildZ (vs := [(0, fl (fop .mul .f32 x.x k)), (1, fl (fop .mul .f32 x.y k)), (2, fl (fop .mul .f32 x.z k))]) rfl rfl rfl rfl rfl rfl) ?_
 refine S_store (i := 1) (yv := .agg #[fl (fop .mul .f32 x.x k), fl (fop .mul .f32 x.y k), fl (fop .mul .f32 x.z k)]) (l' := [fl (fop .mul .f32 x.x k), fl (fop .mul .f32 x.y k), fl (fop .mul .f32 x.z k)]) hS rfl rfl rfl rfl rfl rfl rfl rfl rfl rfl rfl rfl fun H hS => ?_
 refine E_nil ?_
 refine th_norm ?_
 refine AWp_ret (?_)
 refine ret_of ?_
 refine readsRes_of (rs := [.cell 4 41]) (vs := [.agg #[fl (fop .mul .f32 x.x k), fl (fop .mul .f32 x.y k), fl (fop .mul .f32 x.z k)]]) rfl (re_cons (re_cell (p := pt b2 0) rfl (ld_boxA (n := 3) (hS.box 1 rfl) rfl rfl (Nat.le_of_ble_eq_true rfl) rfl)) (re_nil)) rfl ?_
 refine ⟨(⟨fop .mul .f32 x.x k, fop .mul .f32 x.y k, fop .mul .f32 x.z k⟩ : V3), ?_, rfl, .base hS.keep⟩
 · first | rfl | omega | (simp [*]; done)
theorem CrossOf_ok (x : V3) (y : V3) (H : AH)  : ACalls Tryz.prog 135 [va x, va y] H
  (fun r H' => ∃ (v_ : V3), vcross x y = v_ ∧ r = va v_ ∧ SepL H [] H') := by
 refine ACalls_of Tryz.func135 rfl (Nat.le_of_ble_eq_true rfl) ?_
 obtain ⟨H0, hH0⟩ : ∃ H0, H0 = H := ⟨_, rfl⟩
 have hS : SepL H0 [] H := hH0 ▸ SepL.refl H
 subst hH0
 refine AWp_seq ?_
 refine AWp_E rfl ?_
 refine S_box (l := [fl x.x, fl x.y, fl x.z]) hS rfl rfl rfl rfl rfl fun b1 H hS => ?_
 refine S_box (l := [fl y.x, fl y.y, fl y.z]) hS rfl rfl rfl rfl rfl fun b2 H hS => ?_
 refine S_box (l := [fl 0, fl 0, fl 0]) hS rfl rfl rfl rfl rfl fun b3 H hS => ?_
 refine E_nil ?_
 refine th_norm ?_
 refine AWp_seq ?_
 refine AWp_E rfl ?_
 refine ed (pt b1 1) rfl rfl (dv_fieldAddr rfl rfl) ?_
 refine ed (fl x.y) rfl rfl (dv_load rfl (ld_box (hS.box 0 rfl) rfl rfl rfl)) ?_
 refine ed (pt b2 2) rfl rfl (dv_fieldAddr rfl rfl) ?_
 refine ed (fl y.z) rfl rfl (dv_load rfl (ld_box (hS.box 1 rfl) rfl rfl rfl)) ?_
 refine ed (fl (fop .mul .f32 x.y y.z)) rfl rfl (dv_bin rfl rfl rfl) ?_
 refine ed (pt b1 2) rfl rfl (dv_fieldAddr rfl rfl) ?_
 refine ed (fl x.z) rfl rfl (dv_load rfl (ld_box (hS.box 0 rfl) rfl rfl rfl)) ?_
 refine ed (pt b2 1) rfl rfl (dv_fieldAddr rfl rfl) ?_
 refine ed (fl y.y) rfl rfl (dv_load rfl (ld_box (hS.box 1 rfl) rfl rfl rfl)) ?_
 refine ed (fl (fop .mul .f32 x.z y.y)) rfl rfl (dv_bin rfl rfl rfl) ?_
 refine ed (fl (fop .sub .f32 (fop .mul .f32 x.y y.z) (fop .mul .f32 x.z y.y))) rfl rfl (dv_bin rfl rfl rfl) ?_
 refine ed (pt b1 2) rfl rfl (dv_fieldAddr rfl rfl) ?_
 refine ed (fl x.z) rfl rfl (dv_load rfl (ld_box (hS.box 0 rfl) rfl rfl rfl)) ?_
 refine ed (pt b2 0) rfl rfl (dv_fieldAddr rfl rfl) ?_
 refine ed (fl y.x) rfl rfl (dv_load rfl (ld_box (hS.box 1 rfl) rfl rfl rfl)) ?_
 refine ed (fl (fop .mul .f32 x.z y.x)) rfl rfl (dv_bin rfl rfl rfl) ?_
 refine ed (pt b1 0) rfl rfl (dv_fieldAddr rfl rfl) ?_
 refine ed (fl x.x) rfl rfl (dv_load rfl (ld_box (hS.box 0 rfl) rfl rfl rfl)) ?_
 refine ed (pt b2 2) rfl rfl (dv_fieldAddr rfl rfl) ?_
 refine ed (fl y.z) rfl rfl (dv_load rfl (ld_box (hS.box 1 rfl) rfl rfl rfl)) ?_
 refine ed (fl (fop .mul .f32 x.x y.z)) rfl rfl (dv_bin rfl rfl rfl) ?_
 refine ed (fl (fop .sub .f32 (fop .mul .f32 x.z y.x) (fop .mul .f32 x.x y.z))) rfl rfl (dv_bin rfl rfl rfl) ?_
 refine ed (pt b1 0) rfl rfl (dv_fieldAddr rfl rfl) ?_
 refine ed (fl x.x) rfl rfl (dv_load rfl (ld_box (hS.box 0 rfl) rfl rfl rfl)) ?_
 refine ed (pt b2 1) rfl rfl (dv_fieldAddr rfl rfl) ?_
 refine ed (fl y.y) rfl rfl (dv_load rfl (ld_box (hS.box 1 rfl) rfl rfl rfl)) ?_
 refine ed (fl (fop .mul .f32 x.x y.y)) rfl rfl (dv_bin rfl rfl rfl) ?_
 refine ed (pt b1 1) rfl rfl (dv_fieldAddr rfl rfl) ?_
 refine ed (fl x.y) rfl rfl (dv_load rfl (ld_box (hS.box 0 rfl) rfl rfl rfl)) ?_
 refine ed (pt b2 0) rfl rfl (dv_fieldAddr rfl rfl) ?_
 refine ed (fl y.x) rfl rfl (dv_load rfl (ld_box (hS.box 1 rfl) rfl rfl rfl)) ?_
 refine ed (fl (fop .mul .f32 x.y y.x)) rfl rfl (dv_bin rfl rfl rfl) ?_
 refine ed (fl (fop .sub .f32 (fop .mul .f32 x.x y.y) (fop .mul .f32 x.y y.x))) rfl rfl (dv_bin rfl rfl rfl) ?_
 refine ed (.agg #[fl (fop .sub .f32 (fop .mul .f32 x.y y.z) (fop .mul .f32 x.z y.y)), fl (fop .sub .f32 (fop .mul .f32 x.z y.x) (fop .mul .f32 x.x y.z)), fl (fop .sub .f32 (fop .mul .f32 x.x y.y) (fop .mul .f32 x.y y.x))]) rfl rfl (dv_buildZ (vs := [(0, fl (fop .sub .f32 (fop .mul .f32 x.y y.z) (fop .mul .f32 x.z y.y))), (1, fl (fop .sub .f32 (fop .mul .f32 x.z y.x) (fop .mul .f32 x.x y.z))), (2, fl (fop .sub .f32 (fop .mul .f32 x.x y.y) (fop .mul .f32 x.y y.x)))]) rfl rfl rfl rfl rfl rfl) ?_
 refine S_store (i := 2) (yv := .agg #[fl (fop .sub .f32 (fop .mul .f32 x.y y.z) (fop .mul .f32 x.z y.y)), fl (fop .sub .f32 (fop .mul .f32 x.z y.x) (fop .mul .f32 x.x y.z)), fl (fop .sub .f32 (fop .mul .f32 x.x y.y) (fop .mul .f32 x.y y.x))]) (l' := [fl (fop .sub .f32 (fop .mul .f32 x.y y.z) (fop .mul .f32 x.z y.y)), fl (fop .sub .f32 (fop .mul .f32 x.z y.x) (fop .mul .f32 x.x y.z)), fl (fop .sub .f32 (fop .mul .f32 x.x y.y) (fop .mul .f32 x.y y.x))]) hS rfl rfl rfl rfl rfl rfl rfl rfl rfl rfl rfl rfl fun H hS => ?_
 refine E_nil ?_
 refine th_norm ?_
 refine AWp_ret (?_)
 refine ret_of ?_
 refine readsRes_of (rs := [.cell 4 41]) (vs := [.agg #[fl (fop .sub .f32 (fop .mul .f32 x.y y.z) (fop .mul .f32 x.z y.y)), fl (fop .sub .f32 (fop .mul .f32 x.z y.x) (fop .mul .f32 x.x y.z)), fl (fop .sub .f32 (fop .mul .f32 x.x y.y) (fop .mul .f32 x.y y.x))]]) rfl (re_cons (re_cell (p := pt b3 0) rfl (ld_boxA (n := 3) (hS.box 2 rfl) rfl rfl (Nat.le_of_ble_eq_true rfl) rfl)) (re_nil)) rfl ?_
 refine ⟨(⟨fop .sub .f32 (fop .mul .f32 x.y y.z) (fop .mul .f32 x.z y.y), fop .sub .f32 (fop .mul .f32 x.z y.x) (fop .mul .f32 x.x y.z), fop .sub .f32 (fop .mul .f32 x.x y.y) (fop .mul .f32 x.y y.x)⟩ : V3), ?_, rfl, .base hS.keep⟩
 · first | rfl | omega | (simp [*]; done)
theorem l01Cross_ok (x : V3) (y : V3) (H : AH)  : ACalls Tryz.prog 132 [va x, va y] H
  (fun r H' => ∃ (v_ : V3), vcross x y = v_ ∧ r = va v_ ∧ SepL H [] H') := by
 refine ACalls_of Tryz.func132 rfl (Nat.le_of_ble_eq_true rfl) ?_
 obtain ⟨H0, hH0⟩ : ∃ H0, H0 = H := ⟨_, rfl⟩
 have hS : SepL H0 [] H := hH0 ▸ SepL.refl H
 subst hH0
 refine AWp_seq ?_
 refine AWp_E rfl ?_
 refine S_box (l := [fl x.x, fl x.y, fl x.z]) hS rfl rfl rfl rfl rfl fun b1 H hS => ?_
 refine S_box (l := [fl y.x, fl y.y, fl y.z]) hS rfl rfl rfl rfl rfl fun b2 H hS => ?_
 refine S_box (l := [fl 0, fl 0, fl 0]) hS rfl rfl rfl rfl rfl fun b3 H hS => ?_
 refine E_nil ?_
 refine th_norm ?_
 refine AWp_seq ?_
 refine AWp_E rfl ?_
 refine ed (pt b1 1) rfl rfl (dv_fieldAddr rfl rfl) ?_
 refine ed (fl x.y) rfl rfl (dv_load rfl (ld_box (hS.box 0 rfl) rfl rfl rfl)) ?_
 refine ed (pt b2 2) rfl rfl (dv_fieldAddr rfl rfl) ?_
 refine ed (fl y.z) rfl rfl (dv_load rfl (ld_box (hS.box 1 rfl) rfl rfl rfl)) ?_
 refine ed (fl (fop .mul .f32 x.y y.z)) rfl rfl (dv_bin rfl rfl rfl) ?_
 refine ed (pt b1 2) rfl rfl (dv_fieldAddr rfl rfl) ?_
 refine ed (fl x.z) rfl rfl (dv_load rfl (ld_box (hS.box 0 rfl) rfl rfl rfl)) ?_
 refine ed (pt b2 1) rfl rfl (dv_fieldAddr rfl rfl) ?_
 refine ed (fl y.y) rfl rfl (dv_load rfl (ld_box (hS.box 1 rfl) rfl rfl rfl)) ?_
 refine ed (fl (fop .mul .f32 x.z y.y)) rfl rfl (dv_bin rfl rfl rfl) ?_
 refine ed (fl (fop .sub .f32 (fop .mul .f32 x.y y.z) (fop .mul .f32 x.z y.y))) rfl rfl (dv_bin rfl rfl rfl) ?_
 refine ed (pt b1 2) rfl rfl (dv_fieldAddr rfl rfl) ?_
 refine ed (fl x.z) rfl rfl (dv_load rfl (ld_box (hS.box 0 rfl) rfl rfl rfl)) ?_
 refine ed (pt b2 0) rfl rfl (dv_fieldAddr rfl rfl) ?_
 refine ed (fl y.x) rfl rfl (dv_load rfl (ld_box (hS.box 1 rfl) rfl rfl rfl)) ?_
 refine ed (fl (fop .mul .f32 x.z y.x)) rfl rfl (dv_bin rfl rfl rfl) ?_
 refine ed (pt b1 0) rfl rfl (dv_fieldAddr rfl rfl) ?_
 refine ed (fl x.x) rfl rfl (dv_load rfl (ld_box (hS.box 0 rfl) rfl rfl rfl)) ?_
 refine ed (pt b2 2) rfl rfl (dv_fieldAddr rfl rfl) ?_
 refine ed (fl y.z) rfl rfl (dv_load rfl (ld_box (hS.box 1 rfl) rfl rfl rfl)) ?_
 refine ed (fl (fop .mul .f32 x.x y.z)) rfl rfl (dv_bin rfl rfl rfl) ?_
 refine ed (fl (fop .sub .f32 (fop .mul .f32 x.z y.x) (fop .mul .f32 x.x y.z))) rfl rfl (dv_bin rfl rfl rfl) ?_
 refine ed (pt b1 0) rfl rfl (dv_fieldAddr rfl rfl) ?_
 refine ed (fl x.x) rfl rfl (dv_load rfl (ld_box (hS.box 0 rfl) rfl rfl rfl)) ?_
 refine ed (pt b2 1) rfl rfl (dv_fieldAddr rfl rfl) ?_
 refine ed (fl y.y) rfl rfl (dv_load rfl (ld_box (hS.box 1 rfl) rfl rfl rfl)) ?_
 refine ed (fl (fop .mul .f32 x.x y.y)) rfl rfl (dv_bin rfl rfl rfl) ?_
 refine ed (pt b1 1) rfl rfl (dv_fieldAddr rfl rfl) ?_
 refine ed (fl x.y) rfl rfl (dv_load rfl (ld_box (hS.box 0 rfl) rfl rfl rfl)) ?_
 refine ed (pt b2 0) rfl rfl (dv_fieldAddr rfl rfl) ?_
 refine ed (fl y.x) rfl rfl (dv_load rfl (ld_box (hS.box 1 rfl) rfl rfl rfl)) ?_
 refine ed (fl (fop .mul .f32 x.y y.x)) rfl rfl (dv_bin rfl rfl rfl) ?_
 refine ed (fl (fop .sub .f32 (fop .mul .f32 x.x y.y) (fop .mul .f32 x.y y.x))) rfl rfl (dv_bin rfl rfl rfl) ?_
 refine ed (.agg #[fl (fop .sub .f32 (fop .mul .f32 x.y y.z) (fop .mul .f32 x.z y.y)), fl (fop .sub .f32 (fop .mul .f32 x.z y.x) (fop .mul .f32 x.x y.z)), fl (fop .sub .f32 (fop .mul .f32 x.x y.y) (fop .mul .f32 x.y y.x))]) rfl rfl (dv_buildZ (vs := [(0, fl (fop .sub .f32 (fop .mul .f32 x.y y.z) (fop .mul .f32 x.z y.y))), (1, fl (fop .sub .f32 (fop .mul .f32 x.z y.x) (fop .mul .f32 x.x y.z))), (2, fl (fop .sub .f32 (fop .mul .f32 x.x y.y) (fop .mul .f32 x.y y.x)))]) rfl rfl rfl rfl rfl rfl) ?_
 refine S_store (i := 2) (yv := .agg #[fl (fop .sub .f32 (fop .mul .f32 x.y y.z) (fop .mul .f32 x.z y.y)), fl (fop .sub .f32 (fop .mul .f32 x.z y.x) (fop .mul .f32 x.x y.z)), fl (fop .sub .f32 (fop .mul .f32 x.x y.y) (fop .mul .f32 x.y y.x))]) (l' := [fl (fop .sub .f32 (fop .mul .f32 x.y y.z) (fop .mul .f32 x.z y.y)), fl (fop .sub .f32 (fop .mul .f32 x.z y.x) (fop .mul .f32 x.x y.z)), fl (fop .sub .f32 (fop .mul .f32 x.x y.y) (fop .mul .f32 x.y y.x))]) hS rfl rfl rfl rfl rfl rfl rfl rfl rfl rfl rfl rfl fun H hS => ?_
 refine E_nil ?_
 refine th_norm ?_
 refine AWp_ret (?_)
 refine ret_of ?_
 refine readsRes_of (rs := [.cell 4 41]) (vs := [.agg #[fl (fop .sub .f32 (fop .mul .f32 x.y y.z) (fop .mul .f32 x.z y.y)), fl (fop .sub .f32 (fop .mul .f32 x.z y.x) (fop .mul .f32 x.x y.z)), fl (fop .sub .f32 (fop .mul .f32 x.x y.y) (fop .mul .f32 x.y y.x))]]) rfl (re_cons (re_cell (p := pt b3 0) rfl (ld_boxA (n := 3) (hS.box 2 rfl) rfl rfl (Nat.le_of_ble_eq_true rfl) rfl)) (re_nil)) rfl ?_
 refine ⟨(⟨fop .sub .f32 (fop .mul .f32 x.y y.z) (fop .mul .f32 x.z y.y), fop .sub .f32 (fop .mul .f32 x.z y.x) (fop .mul .f32 x.x y.z), fop .sub .f32 (fop .mul .f32 x.x y.y) (fop .mul .f32 x.y y.x)⟩ : V3), ?_, rfl, .base hS.keep⟩
 · first | rfl | omega | (simp [*]; done)
theorem InnerOf_ok (x : V3) (y : V3) (H : AH)  : ACalls Tryz.prog 129 [va x, va y] H
  (fun r H' => ∃ (v_ : Nat), vinner x y = v_ ∧ r = fl v_ ∧ SepL H [] H') := by
 refine ACalls_of Tryz.func129 rfl (Nat.le_of_ble_eq_true rfl) ?_
 obtain ⟨H0, hH0⟩ : ∃ H0, H0 = H := ⟨_, rfl⟩
 have hS : SepL H0 [] H := hH0 ▸ SepL.refl H
 subst hH0
 refine AWp_seq ?_
 refine AWp_E rfl ?_
 refine S_box (l := [fl x.x, fl x.y, fl x.z]) hS rfl rfl rfl rfl rfl fun b1 H hS => ?_
 refine S_box (l := [fl y.x, fl y.y, fl y.z]) hS rfl rfl rfl rfl rfl fun b2 H hS => ?_
 refine ed (fl 0) rfl rfl (dv_assign rfl) ?_
 refine E_nil ?_
 refine th_norm ?_
 refine AWp_seq ?_
 refine AWp_E rfl ?_
 refine ed (pt b1 0) rfl rfl (dv_fieldAddr rfl rfl) ?_
 refine ed (fl x.x) rfl rfl (dv_load rfl (ld_box (hS.box 0 rfl) rfl rfl rfl)) ?_
 refine ed (pt b2 0) rfl rfl (dv_fieldAddr rfl rfl) ?_
 refine ed (fl y.x) rfl rfl (dv_load rfl (ld_box (hS.box 1 rfl) rfl rfl rfl)) ?_
 refine ed (fl (fop .mul .f32 x.x y.x)) rfl rfl (dv_bin rfl rfl rfl) ?_
 refine ed (pt b1 1) rfl rfl (dv_fieldAddr rfl rfl) ?_
 refine ed (fl x.y) rfl rfl (dv_load rfl (ld_box (hS.box 0 rfl) rfl rfl rfl)) ?_
 refine ed (pt b2 1) rfl rfl (dv_fieldAddr rfl rfl) ?_
 refine ed (fl y.y) rfl rfl (dv_load rfl (ld_box (hS.box 1 rfl) rfl rfl rfl)) ?_
 refine ed (fl (fop .mul .f32 x.y y.y)) rfl rfl (dv_bin rfl rfl rfl) ?_
 refine ed (fl (fop .add .f32 (fop .mul .f32 x.x y.x) (fop .mul .f32 x.y y.y))) rfl rfl (dv_bin rfl rfl rfl) ?_
 refine ed (pt b1 2) rfl rfl (dv_fieldAddr rfl rfl) ?_
 refine ed (fl x.z) rfl rfl (dv_load rfl (ld_box (hS.box 0 rfl) rfl rfl rfl)) ?_
 refine ed (pt b2 2) rfl rfl (dv_fieldAddr rfl rfl) ?_
 refine ed (fl y.z) rfl rfl (dv_load rfl (ld_box (hS.box 1 rfl) rfl rfl rfl)) ?_
 refine ed (fl (fop .mul .f32 x.z y.z)) rfl rfl (dv_bin rfl rfl rfl) ?_
 refine ed (fl (fop .add .f32 (fop .add .f32 (fop .mul .f32 x.x y.x) (fop .mul .f32 x.y y.y)) (fop .mul .f32 x.z y.z))) rfl rfl (dv_bin rfl rfl rfl) ?_
 refine ed (fl (fop .add .f32 (fop .add .f32 (fop .mul .f32 x.x y.x) (fop .mul .f32 x.y y.y)) (fop .mul .f32 x.z y.z))) rfl rfl (dv_assign rfl) ?_
 refine E_nil ?_
 refine th_norm ?_
 refine AWp_ret (?_)
 refine ret_of ?_
 refine readsRes_of (rs := [.tmp 4]) (vs := [fl (fop .add .f32 (fop .add .f32 (fop .mul .f32 x.x y.x) (fop .mul .f32 x.y y.y)) (fop .mul .f32 x.z y.z))]) rfl (re_cons (re_tmp rfl) (re_nil)) rfl ?_
 refine ⟨(fop .add .f32 (fop .add .f32 (fop .mul .f32 x.x y.x) (fop .mul .f32 x.y y.y)) (fop .mul .f32 x.z y.z)), ?_, rfl, .base hS.keep⟩
 · first | rfl | omega | (simp [*]; done)
theorem l01Inner_ok (x : V3) (y : V3) (H : AH)  : ACalls Tryz.prog 121 [va x, va y] H
  (fun r H' => ∃ (v_ : Nat), vinner x y = v_ ∧ r = fl v_ ∧ SepL H [] H') := by
 refine ACalls_of Tryz.func121 rfl (Nat.le_of_ble_eq_true rfl) ?_
 obtain ⟨H0, hH0⟩ : ∃ H0, H0 = H := ⟨_, rfl⟩
 have hS : SepL H0 [] H := hH0 ▸ SepL.refl H
 subst hH0
 refine AWp_seq ?_
 refine AWp_E rfl ?_
 refine S_box (l := [fl x.x, fl x.y, fl x.z]) hS rfl rfl rfl rfl rfl fun b1 H hS => ?_
 refine S_box (l := [fl y.x, fl y.y, fl y.z]) hS rfl rfl rfl rfl rfl fun b2 H hS => ?_
 refine ed (fl 0) rfl rfl (dv_assign rfl) ?_
 refine E_nil ?_
 refine th_norm ?_
 refine AWp_seq ?_
 refine AWp_E rfl ?_
 refine ed (pt b1 0) rfl rfl (dv_fieldAddr rfl rfl) ?_
 refine ed (fl x.x) rfl rfl (dv_load rfl (ld_box (hS.box 0 rfl) rfl rfl rfl)) ?_
 refine ed (pt b2 0) rfl rfl (dv_fieldAddr rfl rfl) ?_
 refine ed (fl y.x) rfl rfl (dv_load rfl (ld_box (hS.box 1 rfl) rfl rfl rfl)) ?_
 refine ed (fl (fop .mul .f32 x.x y.x)) rfl rfl (dv_bin rfl rfl rfl) ?_
 refine ed (pt b1 1) rfl rfl (dv_fieldAddr rfl rfl) ?_
 refine ed (fl x.y) rfl rfl (dv_load rfl (ld_box (hS.box 0 rfl) rfl rfl rfl)) ?_
 refine ed (pt b2 1) rfl rfl (dv_fieldAddr rfl rfl) ?_
 refine ed (fl y.y) rfl rfl (dv_load rfl (ld_box (hS.box 1 rfl) rfl rfl rfl)) ?_
 refine ed (fl (fop .mul .f32 x.y y.y)) rfl rfl (dv_bin rfl rfl rfl) ?_
 refine ed (fl (fop .add .f32 (fop .mul .f32 x.x y.x) (fop .mul .f32 x.y y.y))) rfl rfl (dv_bin rfl rfl rfl) ?_
 refine ed (pt b1 2) rfl rfl (dv_fieldAddr rfl rfl) ?_
 refine ed (fl x.z) rfl rfl (dv_load rfl (ld_box (hS.box 0 rfl) rfl rfl rfl)) ?_
 refine ed (pt b2 2) rfl rfl (dv_fieldAddr rfl rfl) ?_
 refine ed (fl y.z) rfl rfl (dv_load rfl (ld_box (hS.box 1 rfl) rfl rfl rfl)) ?_
 refine ed (fl (fop .mul .f32 x.z y.z)) rfl rfl (dv_bin rfl rfl rfl) ?_
 refine ed (fl (fop .add .f32 (fop .add .f32 (fop .mul .f32 x.x y.x) (fop .mul .f32 x.y y.y)) (fop .mul .f32 x.z y.z))) rfl rfl (dv_bin rfl rfl rfl) ?_
 refine ed (fl (fop .add .f32 (fop .add .f32 (fop .mul .f32 x.x y.x) (fop .mul .f32 x.y y.y)) (fop .mul .f32 x.z y.z))) rfl rfl (dv_assign rfl) ?_
 refine E_nil ?_
 refine th_norm ?_
 refine AWp_ret (?_)
 refine ret_of ?_
 refine readsRes_of (rs := [.tmp 4]) (vs := [fl (fop .add .f32 (fop .add .f32 (fop .mul .f32 x.x y.x) (fop .mul .f32 x.y y.y)) (fop .mul .f32 x.z y.z))]) rfl (re_cons (re_tmp rfl) (re_nil)) rfl ?_
 refine ⟨(fop .add .f32 (fop .add .f32 (fop .mul .f32 x.x y.x) (fop .mul .f32 x.y y.y)) (fop .mul .f32 x.z y.z)), ?_, rfl, .base hS.keep⟩
 · first | rfl | omega | (simp [*]; done)
theorem IsFinite_ok (x : Nat) (H : AH)  : ACalls Tryz.prog 123 [fl x] H
  (fun r H' => (fin32 x = true ∧ r = yes ∧ SepL H [] H') ∨ (¬(fin32 x = true) ∧ r = no ∧ SepL H [] H')) := by
 refine ACalls_of Tryz.func123 rfl (Nat.le_of_ble_eq_true rfl) ?_
 obtain ⟨H0, hH0⟩ : ∃ H0, H0 = H := ⟨_, rfl⟩
 have hS : SepL H0 [] H := hH0 ▸ SepL.refl H
 subst hH0
 refine AWp_seq ?_
 refine AWp_E rfl ?_
 refine ed no rfl rfl (dv_assign rfl) ?_
 refine E_nil ?_
 refine th_norm ?_
 refine AWp_seq ?_
 refine AWp_E rfl ?_
 refine ed (fl x) rfl rfl (dv_move rfl) ?_
 refine ed (fl x) rfl rfl (dv_move rfl) ?_
 refine ed (fl (fop .sub .f32 x x)) rfl rfl (dv_bin rfl rfl rfl) ?_
 rcases Bool.eq_false_or_eq_true (feq .f32 (fop .sub .f32 x x) 0) with hc1 | hc1
 ·
  refine ed yes rfl rfl (dv_bin rfl rfl (isB bf_eql hc1)) ?_
  refine ed yes rfl rfl (dv_assign rfl) ?_
  refine E_nil ?_
  refine th_norm ?_
  refine AWp_ret (?_)
  refine ret_of ?_
  refine readsRes_of (rs := [.tmp 2]) (vs := [yes]) rfl (re_cons (re_tmp rfl) (re_nil)) rfl ?_
  refine .inl ?_
  refine ⟨?_, rfl, .base hS.keep⟩
  · simp [fin32, *]
 ·
  refine ed no rfl rfl (dv_bin rfl rfl (isB bf_eql hc1)) ?_
  refine ed no rfl rfl (dv_assign rfl) ?_
  refine E_nil ?_
  refine th_norm ?_
  refine AWp_ret (?_)
  refine ret_of ?_
  refine readsRes_of (rs := [.tmp 2]) (vs := [no]) rfl (re_cons (re_tmp rfl) (re_nil)) rfl ?_
  refine .inr (?_)
  refine ⟨?_, rfl, .base hS.keep⟩
  · simp [fin32, *]
theorem l01Finite_ok (x : Nat) (H : AH)  : ACalls Tryz.prog 108 [fl x] H
  (fun r H' => (fin32 x = true ∧ r = yes ∧ SepL H [] H') ∨ (¬(fin32 x = true) ∧ r = no ∧ SepL H [] H')) := by
 refine ACalls_of Tryz.func108 rfl (Nat.le_of_ble_eq_true rfl) ?_
 obtain ⟨H0, hH0⟩ : ∃ H0, H0 = H := ⟨_, rfl⟩
 have hS : SepL H0 [] H := hH0 ▸ SepL.refl H
 subst hH0
 refine AWp_seq ?_
 refine AWp_E rfl ?_
 refine ed no rfl rfl (dv_assign rfl) ?_
 refine E_nil ?_
 refine th_norm ?_
 refine AWp_seq ?_
 refine AWp_E rfl ?_
 refine ed (fl x) rfl rfl (dv_move rfl) ?_
 refine ed (fl x) rfl rfl (dv_move rfl) ?_
 refine ed (fl (fop .sub .f32 x x)) rfl rfl (dv_bin rfl rfl rfl) ?_
 rcases Bool.eq_false_or_eq_true (feq .f32 (fop .sub .f32 x x) 0) with hc1 | hc1
 ·
  refine ed yes rfl rfl (dv_bin rfl rfl (isB bf_eql hc1)) ?_
  refine ed yes rfl rfl (dv_assign rfl) ?_
  refine E_nil ?_
  refine th_norm ?_
  refine AWp_ret (?_)
  refine ret_of ?_
  refine readsRes_of (rs := [.tmp 2]) (vs := [yes]) rfl (re_cons (re_tmp rfl) (re_nil)) rfl ?_
  refine .inl ?_
  refine ⟨?_, rfl, .base hS.keep⟩
  · simp [fin32, *]
 ·
  refine ed no rfl rfl (dv_bin rfl rfl (isB bf_eql hc1)) ?_
  refine ed no rfl rfl (dv_assign rfl) ?_
  refine E_nil ?_
  refine th_norm ?_
  refine AWp_ret (?_)
  refine ret_of ?_
  refine readsRes_of (rs := [.tmp 2]) (vs := [no]) rfl (re_cons (re_tmp rfl) (re_nil)) rfl ?_
  refine .inr (?_)
  refine ⟨?_, rfl, .base hS.keep⟩
  · simp [fin32, *]
theorem isOver_ok (x : Nat) (H : AH)  : ACalls Tryz.prog 94 [fl x] H
  (fun r H' => (over32 x = true ∧ r = yes ∧ SepL H [] H') ∨ (¬(over32 x = true) ∧ r = no ∧ SepL H [] H')) := by
 refine ACalls_of Tryz.func94 rfl (Nat.le_of_ble_eq_true rfl) ?_
 obtain ⟨H0, hH0⟩ : ∃ H0, H0 = H := ⟨_, rfl⟩
 have hS : SepL H0 [] H := hH0 ▸ SepL.refl H
 subst hH0
 refine AWp_seq ?_
 refine AWp_E rfl ?_
 refine ed no rfl rfl (dv_assign rfl) ?_
 refine E_nil ?_
 refine th_norm ?_
 refine AWp_seq ?_
 refine AWp_E rfl ?_
 refine ed (fl x) rfl rfl (dv_move rfl) ?_
 refine E_call (vs := [fl x]) rfl rfl rfl rfl rfl rfl rfl (IsFinite_ok x _) ?_
 rintro _ H (⟨h1, rfl, hQ⟩ | ⟨h2, rfl, hQ⟩)
 ·
  have hS := hS.up hQ.keep
  refine ed yes rfl rfl (dv_move rfl) ?_
  refine ed (fl x) rfl rfl (dv_move rfl) ?_
  rcases Bool.eq_false_or_eq_true (fgt .f32 x 0) with hc3 | hc3
  ·
   refine ed yes rfl rfl (dv_bin rfl rfl (isB bf_gtr hc3)) ?_
   refine ed yes rfl rfl (dv_pick (t := true) rfl rfl) ?_
   refine ed yes rfl rfl (dv_assign rfl) ?_
   refine E_nil ?_
   refine th_norm ?_
   refine AWp_ret (?_)
   refine ret_of ?_
   refine readsRes_of (rs := [.tmp 2]) (vs := [yes]) rfl (re_cons (re_tmp rfl) (re_nil)) rfl ?_
   refine .inl ?_
   refine ⟨?_, rfl, .base hS.keep⟩
   · simp [over32, *]
  ·
   refine ed no rfl rfl (dv_bin rfl rfl (isB bf_gtr hc3)) ?_
   refine ed no rfl rfl (dv_pick (t := true) rfl rfl) ?_
   refine ed no rfl rfl (dv_assign rfl) ?_
   refine E_nil ?_
   refine th_norm ?_
   refine AWp_ret (?_)
   refine ret_of ?_
   refine readsRes_of (rs := [.tmp 2]) (vs := [no]) rfl (re_cons (re_tmp rfl) (re_nil)) rfl ?_
   refine .inr (?_)
   refine ⟨?_, rfl, .base hS.keep⟩
   · simp [over32, *]
 ·
  have hS := hS.up hQ.keep
  refine ed no rfl rfl (dv_move rfl) ?_
  refine E_skip rfl rfl ?_
  refine E_skip rfl rfl ?_
  refine ed no rfl rfl (dv_pick (t := false) rfl rfl) ?_
  refine ed no rfl rfl (dv_assign rfl) ?_
  refine E_nil ?_
  refine th_norm ?_
  refine AWp_ret (?_)
  refine ret_of ?_
  refine readsRes_of (rs := [.tmp 2]) (vs := [no]) rfl (re_cons (re_tmp rfl) (re_nil)) rfl ?_
  refine .inr (?_)
  refine ⟨?_, rfl, .base hS.keep⟩
  · simp [over32, *]
theorem l03Positive_ok (x : Nat) (H : AH)  : ACalls Tryz.prog 86 [fl x] H
  (fun r H' => (over32 x = true ∧ r = yes ∧ SepL H [] H') ∨ (¬(over32 x = true) ∧ r = no ∧ SepL H [] H')) := by
 refine ACalls_of Tryz.func86 rfl (Nat.le_of_ble_eq_true rfl) ?_
 obtain ⟨H0, hH0⟩ : ∃ H0, H0 = H := ⟨_, rfl⟩
 have hS : SepL H0 [] H := hH0 ▸ SepL.refl H
 subst hH0
 refine AWp_seq ?_
 refine AWp_E rfl ?_
 refine ed no rfl rfl (dv_assign rfl) ?_
 refine E_nil ?_
 refine th_norm ?_
 refine AWp_seq ?_
 refine AWp_E rfl ?_
 refine ed (fl x) rfl rfl (dv_move rfl) ?_
 refine E_call (vs := [fl x]) rfl rfl rfl rfl rfl rfl rfl (l01Finite_ok x _) ?_
 rintro _ H (⟨h1, rfl, hQ⟩ | ⟨h2, rfl, hQ⟩)
 ·
  have hS := hS.up hQ.keep
  refine ed yes rfl rfl (dv_move rfl) ?_
  refine ed (fl x) rfl rfl (dv_move rfl) ?_
  rcases Bool.eq_false_or_eq_true (fgt .f32 x 0) with hc3 | hc3
  ·
   refine ed yes rfl rfl (dv_bin rfl rfl (isB bf_gtr hc3)) ?_
   refine ed yes rfl rfl (dv_pick (t := true) rfl rfl) ?_
   refine ed yes rfl rfl (dv_assign rfl) ?_
   refine E_nil ?_
   refine th_norm ?_
   refine AWp_ret (?_)
   refine ret_of ?_
   refine readsRes_of (rs := [.tmp 2]) (vs := [yes]) rfl (re_cons (re_tmp rfl) (re_nil)) rfl ?_
   refine .inl ?_
   refine ⟨?_, rfl, .base hS.keep⟩
   · simp [over32, *]
  ·
   refine ed no rfl rfl (dv_bin rfl rfl (isB bf_gtr hc3)) ?_
   refine ed no rfl rfl (dv_pick (t := true) rfl rfl) ?_
   refine ed no rfl rfl (dv_assign rfl) ?_
   refine E_nil ?_
   refine th_norm ?_
   refine AWp_ret (?_)
   refine ret_of ?_
   refine readsRes_of (rs := [.tmp 2]) (vs := [no]) rfl (re_cons (re_tmp rfl) (re_nil)) rfl ?_
   refine .inr (?_)
   refine ⟨?_, rfl, .base hS.keep⟩
   · simp [over32, *]
 ·
  have hS := hS.up hQ.keep
  refine ed no rfl rfl (dv_move rfl) ?_
  refine E_skip rfl rfl ?_
  refine E_skip rfl rfl ?_
  refine ed no rfl rfl (dv_pick (t := false) rfl rfl) ?_
  refine ed no rfl rfl (dv_assign rfl) ?_
  refine E_nil ?_
  refine th_norm ?_
  refine AWp_ret (?_)
  refine ret_of ?_
  refine readsRes_of (rs := [.tmp 2]) (vs := [no]) rfl (re_cons (re_tmp rfl) (re_nil)) rfl ?_
  refine .inr (?_)
  refine ⟨?_, rfl, .base hS.keep⟩
  · simp [over32, *]
theorem Sqrt_ok (x : Nat) (H : AH)  : ACalls Tryz.prog 138 [fd x] H
  (fun r H' => ∃ (v_ : Nat), fsqrt .f64 x = v_ ∧ r = fd v_ ∧ SepL H [] H') := by
 refine ACalls_of Tryz.func138 rfl (Nat.le_of_ble_eq_true rfl) ?_
 obtain ⟨H0, hH0⟩ : ∃ H0, H0 = H := ⟨_, rfl⟩
 have hS : SepL H0 [] H := hH0 ▸ SepL.refl H
 subst hH0
 refine AWp_seq ?_
 refine AWp_E rfl ?_
 refine ed (fd 0) rfl rfl (dv_assign rfl) ?_
 refine E_nil ?_
 refine th_norm ?_
 refine AWp_seq ?_
 refine AWp_E rfl ?_
 refine ed (fd x) rfl rfl (dv_move rfl) ?_
 refine E_ext (vs := [fd x]) (v := fd (fsqrt .f64 x)) rfl rfl rfl rfl rfl rfl (sqrtX _) ?_
 refine ed (fd (fsqrt .f64 x)) rfl rfl (dv_assign rfl) ?_
 refine E_nil ?_
 refine th_norm ?_
 refine AWp_ret (?_)
 refine ret_of ?_
 refine readsRes_of (rs := [.tmp 2]) (vs := [fd (fsqrt .f64 x)]) rfl (re_cons (re_tmp rfl) (re_nil)) rfl ?_
 refine ⟨(fsqrt .f64 x), ?_, rfl, .base hS.keep⟩
 · first | rfl | omega | (simp [*]; done)
theorem RootNumber_ok (x : Nat) (H : AH)  : ACalls Tryz.prog 139 [fl x] H
  (fun r H' => ∃ (v_ : Nat), root32 x = v_ ∧ r = fl v_ ∧ SepL H [] H') := by
 refine ACalls_of Tryz.func139 rfl (Nat.le_of_ble_eq_true rfl) ?_
 obtain ⟨H0, hH0⟩ : ∃ H0, H0 = H := ⟨_, rfl⟩
 have hS : SepL H0 [] H := hH0 ▸ SepL.refl H
 subst hH0
 refine AWp_seq ?_
 refine AWp_E rfl ?_
 refine ed (fl 0) rfl rfl (dv_assign rfl) ?_
 refine E_nil ?_
 refine th_norm ?_
 refine AWp_seq ?_
 refine AWp_E rfl ?_
 refine ed (fl x) rfl rfl (dv_move rfl) ?_
 refine ed (fd (up64 x)) rfl rfl (dv_conv rfl (cv_up rfl rfl rfl)) ?_
 refine E_call (vs := [fd (up64 x)]) rfl rfl rfl rfl rfl rfl rfl (Sqrt_ok (up64 x) _) ?_
 rintro _ H ⟨v1, rfl, rfl, hQ⟩
 have hS := hS.up hQ.keep
 refine ed (fl (root32 x)) rfl rfl (dv_conv rfl (cv_root rfl rfl rfl)) ?_
 refine ed (fl (root32 x)) rfl rfl (dv_assign rfl) ?_
 refine E_nil ?_
 refine th_norm ?_
 refine AWp_ret (?_)
 refine ret_of ?_
 refine readsRes_of (rs := [.tmp 2]) (vs := [fl (root32 x)]) rfl (re_cons (re_tmp rfl) (re_nil)) rfl ?_
 refine ⟨(root32 x), ?_, rfl, .base hS.keep⟩
 · first | rfl | omega | (simp [*]; done)
theorem l01Narrow_ok (x : Nat) (H : AH)  : ACalls Tryz.prog 137 [fd (fsqrt .f64 (up64 x))] H
  (fun r H' => ∃ (v_ : Nat), root32 x = v_ ∧ r = fl v_ ∧ SepL H [] H') := by
 refine ACalls_of Tryz.func137 rfl (Nat.le_of_ble_eq_true rfl) ?_
 obtain ⟨H0, hH0⟩ : ∃ H0, H0 = H := ⟨_, rfl⟩
 have hS : SepL H0 [] H := hH0 ▸ SepL.refl H
 subst hH0
 refine AWp_seq ?_
 refine AWp_E rfl ?_
 refine ed (fl 0) rfl rfl (dv_assign rfl) ?_
 refine E_nil ?_
 refine th_norm ?_
 refine AWp_seq ?_
 refine AWp_E rfl ?_
 refine ed (fd (fsqrt .f64 (up64 x))) rfl rfl (dv_move rfl) ?_
 refine ed (fl (root32 x)) rfl rfl (dv_conv rfl (cv_root rfl rfl rfl)) ?_
 refine ed (fl (root32 x)) rfl rfl (dv_assign rfl) ?_
 refine E_nil ?_
 refine th_norm ?_
 refine AWp_ret (?_)
 refine ret_of ?_
 refine readsRes_of (rs := [.tmp 2]) (vs := [fl (root32 x)]) rfl (re_cons (re_tmp rfl) (re_nil)) rfl ?_
 refine ⟨(root32 x), ?_, rfl, .base hS.keep⟩
 · first | rfl | omega | (simp [*]; done)
theorem l01Sqrt_ok (x : Nat) (H : AH)  : ACalls Tryz.prog 107 [fl x] H
  (fun r H' => ∃ (v_ : Nat), root32 x = v_ ∧ r = fl v_ ∧ SepL H [] H') := by
 refine ACalls_of Tryz.func107 rfl (Nat.le_of_ble_eq_true rfl) ?_
 obtain ⟨H0, hH0⟩ : ∃ H0, H0 = H := ⟨_, rfl⟩
 have hS : SepL H0 [] H := hH0 ▸ SepL.refl H
 subst hH0
 refine AWp_seq ?_
 refine AWp_E rfl ?_
 refine ed (fl 0) rfl rfl (dv_assign rfl) ?_
 refine E_nil ?_
 refine th_norm ?_
 refine AWp_seq ?_
 refine AWp_E rfl ?_
 refine ed (fl x) rfl rfl (dv_move rfl) ?_
 refine ed (fd (up64 x)) rfl rfl (dv_conv rfl (cv_up rfl rfl rfl)) ?_
 refine E_call (vs := [fd (up64 x)]) rfl rfl rfl rfl rfl rfl rfl (Sqrt_ok (up64 x) _) ?_
 rintro _ H ⟨v1, rfl, rfl, hQ⟩
 have hS := hS.up hQ.keep
 refine E_call (vs := [fd (fsqrt .f64 (up64 x))]) rfl rfl rfl rfl rfl rfl rfl (l01Narrow_ok x _) ?_
 rintro _ H ⟨v2, rfl, rfl, hQ⟩
 have hS := hS.up hQ.keep
 refine ed (fl (root32 x)) rfl rfl (dv_assign rfl) ?_
 refine E_nil ?_
 refine th_norm ?_
 refine AWp_ret (?_)
 refine ret_of ?_
 refine readsRes_of (rs := [.tmp 2]) (vs := [fl (root32 x)]) rfl (re_cons (re_tmp rfl) (re_nil)) rfl ?_
 refine ⟨(root32 x), ?_, rfl, .base hS.keep⟩
 · first | rfl | omega | (simp [*]; done)
theorem LongOf_ok (x : V3) (H : AH)  : ACalls Tryz.prog 124 [va x] H
  (fun r H' => ∃ (v_ : Nat), vlong x = v_ ∧ r = fl v_ ∧ SepL H [] H') := by
 refine ACalls_of Tryz.func124 rfl (Nat.le_of_ble_eq_true rfl) ?_
 obtain ⟨H0, hH0⟩ : ∃ H0, H0 = H := ⟨_, rfl⟩
 have hS : SepL H0 [] H := hH0 ▸ SepL.refl H
 subst hH0
 refine AWp_seq ?_
 refine AWp_E rfl ?_
 refine S_box (l := [fl x.x, fl x.y, fl x.z]) hS rfl rfl rfl rfl rfl fun b1 H hS => ?_
 refine ed (fl 0) rfl rfl (dv_assign rfl) ?_
 refine E_nil ?_
 refine th_norm ?_
 refine AWp_seq ?_
 refine AWp_E rfl ?_
 refine ed (va x) rfl rfl (dv_load rfl (ld_boxA (n := 3) (hS.box 0 rfl) rfl rfl (Nat.le_of_ble_eq_true rfl) rfl)) ?_
 refine ed (va x) rfl rfl (dv_load rfl (ld_boxA (n := 3) (hS.box 0 rfl) rfl rfl (Nat.le_of_ble_eq_true rfl) rfl)) ?_
 refine E_call (vs := [va x, va x]) rfl rfl rfl rfl rfl rfl rfl (InnerOf_ok x x _) ?_
 rintro _ H ⟨v2, rfl, rfl, hQ⟩
 have hS := hS.up hQ.keep
 refine E_call (vs := [fl (vinner x x)]) rfl rfl rfl rfl rfl rfl rfl (RootNumber_ok (vinner x x) _) ?_
 rintro _ H ⟨v3, rfl, rfl, hQ⟩
 have hS := hS.up hQ.keep
 refine ed (fl (root32 (vinner x x))) rfl rfl (dv_assign rfl) ?_
 refine E_nil ?_
 refine th_norm ?_
 refine AWp_ret (?_)
 refine ret_of ?_
 refine readsRes_of (rs := [.tmp 2]) (vs := [fl (root32 (vinner x x))]) rfl (re_cons (re_tmp rfl) (re_nil)) rfl ?_
 refine ⟨(root32 (vinner x x)), ?_, rfl, .base hS.keep⟩
 · first | rfl | omega | (simp [*]; done)
theorem l01Long_ok (x : V3) (H : AH)  : ACalls Tryz.prog 117 [va x] H
  (fun r H' => ∃ (v_ : Nat), vlong x = v_ ∧ r = fl v_ ∧ SepL H [] H') := by
 refine ACalls_of Tryz.func117 rfl (Nat.le_of_ble_eq_true rfl) ?_
 obtain ⟨H0, hH0⟩ : ∃ H0, H0 = H := ⟨_, rfl⟩
 have hS : SepL H0 [] H := hH0 ▸ SepL.refl H
 subst hH0
 refine AWp_seq ?_
 refine AWp_E rfl ?_
 refine S_box (l := [fl x.x, fl x.y, fl x.z]) hS rfl rfl rfl rfl rfl fun b1 H hS => ?_
 refine ed (fl 0) rfl rfl (dv_assign rfl) ?_
 refine E_nil ?_
 refine th_norm ?_
 refine AWp_seq ?_
 refine AWp_E rfl ?_
 refine ed (va x) rfl rfl (dv_load rfl (ld_boxA (n := 3) (hS.box 0 rfl) rfl rfl (Nat.le_of_ble_eq_true rfl) rfl)) ?_
 refine ed (va x) rfl rfl (dv_load rfl (ld_boxA (n := 3) (hS.box 0 rfl) rfl rfl (Nat.le_of_ble_eq_true rfl) rfl)) ?_
 refine E_call (vs := [va x, va x]) rfl rfl rfl rfl rfl rfl rfl (l01Inner_ok x x _) ?_
 rintro _ H ⟨v2, rfl, rfl, hQ⟩
 have hS := hS.up hQ.keep
 refine E_call (vs := [fl (vinner x x)]) rfl rfl rfl rfl rfl rfl rfl (l01Sqrt_ok (vinner x x) _) ?_
 rintro _ H ⟨v3, rfl, rfl, hQ⟩
 have hS := hS.up hQ.keep
 refine ed (fl (root32 (vinner x x))) rfl rfl (dv_assign rfl) ?_
 refine E_nil ?_
 refine th_norm ?_
 refine AWp_ret (?_)
 refine ret_of ?_
 refine readsRes_of (rs := [.tmp 2]) (vs := [fl (root32 (vinner x x))]) rfl (re_cons (re_tmp rfl) (re_nil)) rfl ?_
 refine ⟨(root32 (vinner x x)), ?_, rfl, .base hS.keep⟩
 · first | rfl | omega | (simp [*]; done)
end Go.Ab

set_option maxRecDepth 100000
set_option maxHeartbeats 4000000
namespace Go.Ab
open Go.Proofs
theorem sameFloat_ok (x : Nat) (y : Nat) (H : AH) (hxy : x = y) : ACalls Tryz.prog 27 [fd x, fd y] H
  (fun r H' => r = yes ∧ SepL H [] H') := by
 refine ACalls_of Tryz.func27 rfl (Nat.le_of_ble_eq_true rfl) ?_
 obtain ⟨H0, hH0⟩ : ∃ H0, H0 = H := ⟨_, rfl⟩
 have hS : SepL H0 [] H := hH0 ▸ SepL.refl H
 subst hH0
 subst hxy
 refine AWp_seq ?_
 refine AWp_E rfl ?_
 refine ed no rfl rfl (dv_assign rfl) ?_
 refine E_nil ?_
 refine th_norm ?_
 refine AWp_seq ?_
 refine AWp_seq ?_
 refine AWp_E rfl ?_
 refine ed (fd x) rfl rfl (dv_move rfl) ?_
 refine ed (fd x) rfl rfl (dv_move rfl) ?_
 rcases Bool.eq_false_or_eq_true (feq .f64 x x) with hc1 | hc1
 ·
  refine ed no rfl rfl (dv_bin rfl rfl (isB bf_neq (by rw [hc1]; rfl))) ?_
  refine ed no rfl rfl (dv_move rfl) ?_
  refine ed (fd x) rfl rfl (dv_move rfl) ?_
  refine ed (fd x) rfl rfl (dv_move rfl) ?_
  refine ed no rfl rfl (dv_bin rfl rfl (isB bf_neq (by rw [hc1]; rfl))) ?_
  refine ed no rfl rfl (dv_pick (t := false) rfl rfl) ?_
  refine E_nil ?_
  refine th_norm ?_
  refine AWp_cond (t := false) rfl nofun (fun _ => ?_)
  refine AWp_skip ?_
  refine th_norm ?_
  refine AWp_seq ?_
  refine AWp_seq ?_
  refine AWp_E rfl ?_
  refine ed (fd x) rfl rfl (dv_move rfl) ?_
  rcases Bool.eq_false_or_eq_true (feq .f64 x 0) with hc2 | hc2
  ·
   refine ed yes rfl rfl (dv_bin rfl rfl (isB bf_eql hc2)) ?_
   refine ed yes rfl rfl (dv_move rfl) ?_
   refine ed (fd x) rfl rfl (dv_move rfl) ?_
   refine ed yes rfl rfl (dv_bin rfl rfl (isB bf_eql hc2)) ?_
   refine ed yes rfl rfl (dv_pick (t := true) rfl rfl) ?_
   refine E_nil ?_
   refine th_norm ?_
   refine AWp_cond (t := true) rfl (fun _ => ?_) nofun
   refine AWp_seq ?_
   refine AWp_E rfl ?_
   refine ed (fd x) rfl rfl (dv_move rfl) ?_
   refine ed (fd (fop .div .f64 4607182418800017408 x)) rfl rfl (dv_bin rfl rfl rfl) ?_
   rcases Bool.eq_false_or_eq_true (fgt .f64 (fop .div .f64 4607182418800017408 x) 0) with hc3 | hc3
   ·
    refine ed yes rfl rfl (dv_bin rfl rfl (isB bf_gtr hc3)) ?_
    refine ed (fd x) rfl rfl (dv_move rfl) ?_
    refine ed (fd (fop .div .f64 4607182418800017408 x)) rfl rfl (dv_bin rfl rfl rfl) ?_
    refine ed yes rfl rfl (dv_bin rfl rfl (isB bf_gtr hc3)) ?_
    refine ed yes rfl rfl (dv_bin rfl rfl rfl) ?_
    refine ed yes rfl rfl (dv_assign rfl) ?_
    refine E_nil ?_
    refine th_norm ?_
    refine AWp_ret (th_ret (?_))
    refine ret_of ?_
    refine readsRes_of (rs := [.tmp 4]) (vs := [yes]) rfl (re_cons (re_tmp rfl) (re_nil)) rfl ?_
    refine ⟨rfl, .base hS.keep⟩
   ·
    refine ed no rfl rfl (dv_bin rfl rfl (isB bf_gtr hc3)) ?_
    refine ed (fd x) rfl rfl (dv_move rfl) ?_
    refine ed (fd (fop .div .f64 4607182418800017408 x)) rfl rfl (dv_bin rfl rfl rfl) ?_
    refine ed no rfl rfl (dv_bin rfl rfl (isB bf_gtr hc3)) ?_
    refine ed yes rfl rfl (dv_bin rfl rfl rfl) ?_
    refine ed yes rfl rfl (dv_assign rfl) ?_
    refine E_nil ?_
    refine th_norm ?_
    refine AWp_ret (th_ret (?_))
    refine ret_of ?_
    refine readsRes_of (rs := [.tmp 4]) (vs := [yes]) rfl (re_cons (re_tmp rfl) (re_nil)) rfl ?_
    refine ⟨rfl, .base hS.keep⟩
  ·
   refine ed no rfl rfl (dv_bin rfl rfl (isB bf_eql hc2)) ?_
   refine ed no rfl rfl (dv_move rfl) ?_
   refine E_skip rfl rfl ?_
   refine E_skip rfl rfl ?_
   refine ed no rfl rfl (dv_pick (t := false) rfl rfl) ?_
   refine E_nil ?_
   refine th_norm ?_
   refine AWp_cond (t := false) rfl nofun (fun _ => ?_)
   refine AWp_skip ?_
   refine th_norm ?_
   refine AWp_seq ?_
   refine AWp_E rfl ?_
   refine ed (fd x) rfl rfl (dv_move rfl) ?_
   refine ed (fd x) rfl rfl (dv_move rfl) ?_
   refine ed yes rfl rfl (dv_bin rfl rfl (isB bf_eql hc1)) ?_
   refine ed yes rfl rfl (dv_assign rfl) ?_
   refine E_nil ?_
   refine th_norm ?_
   refine AWp_ret (?_)
   refine ret_of ?_
   refine readsRes_of (rs := [.tmp 4]) (vs := [yes]) rfl (re_cons (re_tmp rfl) (re_nil)) rfl ?_
   refine ⟨rfl, .base hS.keep⟩
 ·
  refine ed yes rfl rfl (dv_bin rfl rfl (isB bf_neq (by rw [hc1]; rfl))) ?_
  refine ed yes rfl rfl (dv_move rfl) ?_
  refine E_skip rfl rfl ?_
  refine E_skip rfl rfl ?_
  refine E_skip rfl rfl ?_
  refine ed yes rfl rfl (dv_pick (t := true) rfl rfl) ?_
  refine E_nil ?_
  refine th_norm ?_
  refine AWp_cond (t := true) rfl (fun _ => ?_) nofun
  refine AWp_seq ?_
  refine AWp_E rfl ?_
  refine ed (fd x) rfl rfl (dv_move rfl) ?_
  refine ed (fd x) rfl rfl (dv_move rfl) ?_
  refine ed yes rfl rfl (dv_bin rfl rfl (isB bf_neq (by rw [hc1]; rfl))) ?_
  refine ed yes rfl rfl (dv_move rfl) ?_
  refine ed (fd x) rfl rfl (dv_move rfl) ?_
  refine ed (fd x) rfl rfl (dv_move rfl) ?_
  refine ed yes rfl rfl (dv_bin rfl rfl (isB bf_neq (by rw [hc1]; rfl))) ?_
  refine ed yes rfl rfl (dv_pick (t := true) rfl rfl) ?_
  refine ed yes rfl rfl (dv_assign rfl) ?_
  refine E_nil ?_
  refine th_norm ?_
  refine AWp_ret (th_ret (?_))
  refine ret_of ?_
  refine readsRes_of (rs := [.tmp 4]) (vs := [yes]) rfl (re_cons (re_tmp rfl) (re_nil)) rfl ?_
  refine ⟨rfl, .base hS.keep⟩
theorem eqVector_ok (x : V3) (y : V3) (H : AH) (hxy : x = y) : ACalls Tryz.prog 61 [va x, va y] H
  (fun r H' => r = yes ∧ SepL H [] H') := by
 refine ACalls_of Tryz.func61 rfl (Nat.le_of_ble_eq_true rfl) ?_
 obtain ⟨H0, hH0⟩ : ∃ H0, H0 = H := ⟨_, rfl⟩
 have hS : SepL H0 [] H := hH0 ▸ SepL.refl H
 subst hH0
 subst hxy
 refine AWp_seq ?_
 refine AWp_E rfl ?_
 refine S_box (l := [fl x.x, fl x.y, fl x.z]) hS rfl rfl rfl rfl rfl fun b1 H hS => ?_
 refine S_box (l := [fl x.x, fl x.y, fl x.z]) hS rfl rfl rfl rfl rfl fun b2 H hS => ?_
 refine ed no rfl rfl (dv_assign rfl) ?_
 refine E_nil ?_
 refine th_norm ?_
 refine AWp_seq ?_
 refine AWp_seq ?_
 refine AWp_E rfl ?_
 refine ed (pt b1 0) rfl rfl (dv_fieldAddr rfl rfl) ?_
 refine ed (fl x.x) rfl rfl (dv_load rfl (ld_box (hS.box 0 rfl) rfl rfl rfl)) ?_
 refine ed (fd (up64 x.x)) rfl rfl (dv_conv rfl (cv_up rfl rfl rfl)) ?_
 refine ed (pt b2 0) rfl rfl (dv_fieldAddr rfl rfl) ?_
 refine ed (fl x.x) rfl rfl (dv_load rfl (ld_box (hS.box 1 rfl) rfl rfl rfl)) ?_
 refine ed (fd (up64 x.x)) rfl rfl (dv_conv rfl (cv_up rfl rfl rfl)) ?_
 refine E_call (vs := [fd (up64 x.x), fd (up64 x.x)]) rfl rfl rfl rfl rfl rfl rfl (sameFloat_ok (up64 x.x) (up64 x.x) _ (rfl)) ?_
 rintro _ H ⟨rfl, hQ⟩
 have hS := hS.up hQ.keep
 refine ed no rfl rfl (dv_un rfl rfl) ?_
 refine E_nil ?_
 refine th_norm ?_
 refine AWp_cond (t := false) rfl nofun (fun _ => ?_)
 refine AWp_skip ?_
 refine th_norm ?_
 refine AWp_seq ?_
 refine AWp_seq ?_
 refine AWp_E rfl ?_
 refine ed (pt b1 1) rfl rfl (dv_fieldAddr rfl rfl) ?_
 refine ed (fl x.y) rfl rfl (dv_load rfl (ld_box (hS.box 0 rfl) rfl rfl rfl)) ?_
 refine ed (fd (up64 x.y)) rfl rfl (dv_conv rfl (cv_up rfl rfl rfl)) ?_
 refine ed (pt b2 1) rfl rfl (dv_fieldAddr rfl rfl) ?_
 refine ed (fl x.y) rfl rfl (dv_load rfl (ld_box (hS.box 1 rfl) rfl rfl rfl)) ?_
 refine ed (fd (up64 x.y)) rfl rfl (dv_conv rfl (cv_up rfl rfl rfl)) ?_
 refine E_call (vs := [fd (up64 x.y), fd (up64 x.y)]) rfl rfl rfl rfl rfl rfl rfl (sameFloat_ok (up64 x.y) (up64 x.y) _ (rfl)) ?_
 rintro _ H ⟨rfl, hQ⟩
 have hS := hS.up hQ.keep
 refine ed no rfl rfl (dv_un rfl rfl) ?_
 refine E_nil ?_
 refine th_norm ?_
 refine AWp_cond (t := false) rfl nofun (fun _ => ?_)
 refine AWp_skip ?_
 refine th_norm ?_
 refine AWp_seq ?_
 refine AWp_seq ?_
 refine AWp_E rfl ?_
 refine ed (pt b1 2) rfl rfl (dv_fieldAddr rfl rfl) ?_
 refine ed (fl x.z) rfl rfl (dv_load rfl (ld_box (hS.box 0 rfl) rfl rfl rfl)) ?_
 refine ed (fd (up64 x.z)) rfl rfl (dv_conv rfl (cv_up rfl rfl rfl)) ?_
 refine ed (pt b2 2) rfl rfl (dv_fieldAddr rfl rfl) ?_
 refine ed (fl x.z) rfl rfl (dv_load rfl (ld_box (hS.box 1 rfl) rfl rfl rfl)) ?_
 refine ed (fd (up64 x.z)) rfl rfl (dv_conv rfl (cv_up rfl rfl rfl)) ?_
 refine E_call (vs := [fd (up64 x.z), fd (up64 x.z)]) rfl rfl rfl rfl rfl rfl rfl (sameFloat_ok (up64 x.z) (up64 x.z) _ (rfl)) ?_
 rintro _ H ⟨rfl, hQ⟩
 have hS := hS.up hQ.keep
 refine ed no rfl rfl (dv_un rfl rfl) ?_
 refine E_nil ?_
 refine th_norm ?_
 refine AWp_cond (t := false) rfl nofun (fun _ => ?_)
 refine AWp_skip ?_
 refine th_norm ?_
 refine AWp_seq ?_
 refine AWp_E rfl ?_
 refine ed yes rfl rfl (dv_assign rfl) ?_
 refine E_nil ?_
 refine th_norm ?_
 refine AWp_ret (?_)
 refine ret_of ?_
 refine readsRes_of (rs := [.tmp 4]) (vs := [yes]) rfl (re_cons (re_tmp rfl) (re_nil)) rfl ?_
 refine ⟨rfl, .base hS.keep⟩
theorem eqSpring_ok (x : Spr) (y : Spr) (H : AH) (hxy : x = y) : ACalls Tryz.prog 99 [.agg #[iv x.A, iv x.B, fl x.Long, fl x.Stiff], .agg #[iv y.A, iv y.B, fl y.Long, fl y.Stiff]] H
  (fun r H' => r = yes ∧ SepL H [] H') := by
 refine ACalls_of Tryz.func99 rfl (Nat.le_of_ble_eq_true rfl) ?_
 obtain ⟨H0, hH0⟩ : ∃ H0, H0 = H := ⟨_, rfl⟩
 have hS : SepL H0 [] H := hH0 ▸ SepL.refl H
 subst hH0
 subst hxy
 refine AWp_seq ?_
 refine AWp_E rfl ?_
 refine S_box (l := [iv x.A, iv x.B, fl x.Long, fl x.Stiff]) hS rfl rfl rfl rfl rfl fun b1 H hS => ?_
 refine S_box (l := [iv x.A, iv x.B, fl x.Long, fl x.Stiff]) hS rfl rfl rfl rfl rfl fun b2 H hS => ?_
 refine ed no rfl rfl (dv_assign rfl) ?_
 refine E_nil ?_
 refine th_norm ?_
 refine AWp_seq ?_
 refine AWp_seq ?_
 refine AWp_E rfl ?_
 refine ed (pt b1 0) rfl rfl (dv_fieldAddr rfl rfl) ?_
 refine ed (iv x.A) rfl rfl (dv_load rfl (ld_box (hS.box 0 rfl) rfl rfl rfl)) ?_
 refine ed (pt b2 0) rfl rfl (dv_fieldAddr rfl rfl) ?_
 refine ed (iv x.A) rfl rfl (dv_load rfl (ld_box (hS.box 1 rfl) rfl rfl rfl)) ?_
 rcases Decidable.em ((x.A : Int) ≠ x.A) with hc3 | hc3
 ·
  refine ed yes rfl rfl (dv_bin rfl rfl (bi_neq_t hc3)) ?_
  refine E_nil ?_
  refine th_norm ?_
  refine AWp_cond (t := true) rfl (fun _ => ?_) nofun
  refine AWp_seq ?_
  refine AWp_E rfl ?_
  refine ed no rfl rfl (dv_assign rfl) ?_
  refine E_nil ?_
  refine th_norm ?_
  refine AWp_ret (th_ret (?_))
  refine ret_of ?_
  refine readsRes_of (rs := [.tmp 4]) (vs := [no]) rfl (re_cons (re_tmp rfl) (re_nil)) rfl ?_
  exfalso; omega
 ·
  refine ed no rfl rfl (dv_bin rfl rfl (bi_neq_f hc3)) ?_
  refine E_nil ?_
  refine th_norm ?_
  refine AWp_cond (t := false) rfl nofun (fun _ => ?_)
  refine AWp_skip ?_
  refine th_norm ?_
  refine AWp_seq ?_
  refine AWp_seq ?_
  refine AWp_E rfl ?_
  refine ed (pt b1 1) rfl rfl (dv_fieldAddr rfl rfl) ?_
  refine ed (iv x.B) rfl rfl (dv_load rfl (ld_box (hS.box 0 rfl) rfl rfl rfl)) ?_
  refine ed (pt b2 1) rfl rfl (dv_fieldAddr rfl rfl) ?_
  refine ed (iv x.B) rfl rfl (dv_load rfl (ld_box (hS.box 1 rfl) rfl rfl rfl)) ?_
  rcases Decidable.em ((x.B : Int) ≠ x.B) with hc4 | hc4
  ·
   refine ed yes rfl rfl (dv_bin rfl rfl (bi_neq_t hc4)) ?_
   refine E_nil ?_
   refine th_norm ?_
   refine AWp_cond (t := true) rfl (fun _ => ?_) nofun
   refine AWp_seq ?_
   refine AWp_E rfl ?_
   refine ed no rfl rfl (dv_assign rfl) ?_
   refine E_nil ?_
   refine th_norm ?_
   refine AWp_ret (th_ret (?_))
   refine ret_of ?_
   refine readsRes_of (rs := [.tmp 4]) (vs := [no]) rfl (re_cons (re_tmp rfl) (re_nil)) rfl ?_
   exfalso; omega
  ·
   refine ed no rfl rfl (dv_bin rfl rfl (bi_neq_f hc4)) ?_
   refine E_nil ?_
   refine th_norm ?_
   refine AWp_cond (t := false) rfl nofun (fun _ => ?_)
   refine AWp_skip ?_
   refine th_norm ?_
   refine AWp_seq ?_
   refine AWp_seq ?_
   refine AWp_E rfl ?_
   refine ed (pt b1 2) rfl rfl (dv_fieldAddr rfl rfl) ?_
   refine ed (fl x.Long) rfl rfl (dv_load rfl (ld_box (hS.box 0 rfl) rfl rfl rfl)) ?_
   refine ed (fd (up64 x.Long)) rfl rfl (dv_conv rfl (cv_up rfl rfl rfl)) ?_
   refine ed (pt b2 2) rfl rfl (dv_fieldAddr rfl rfl) ?_
   refine ed (fl x.Long) rfl rfl (dv_load rfl (ld_box (hS.box 1 rfl) rfl rfl rfl)) ?_
   refine ed (fd (up64 x.Long)) rfl rfl (dv_conv rfl (cv_up rfl rfl rfl)) ?_
   refine E_call (vs := [fd (up64 x.Long), fd (up64 x.Long)]) rfl rfl rfl rfl rfl rfl rfl (sameFloat_ok (up64 x.Long) (up64 x.Long) _ (rfl)) ?_
   rintro _ H ⟨rfl, hQ⟩
   have hS := hS.up hQ.keep
   refine ed no rfl rfl (dv_un rfl rfl) ?_
   refine E_nil ?_
   refine th_norm ?_
   refine AWp_cond (t := false) rfl nofun (fun _ => ?_)
   refine AWp_skip ?_
   refine th_norm ?_
   refine AWp_seq ?_
   refine AWp_seq ?_
   refine AWp_E rfl ?_
   refine ed (pt b1 3) rfl rfl (dv_fieldAddr rfl rfl) ?_
   refine ed (fl x.Stiff) rfl rfl (dv_load rfl (ld_box (hS.box 0 rfl) rfl rfl rfl)) ?_
   refine ed (fd (up64 x.Stiff)) rfl rfl (dv_conv rfl (cv_up rfl rfl rfl)) ?_
   refine ed (pt b2 3) rfl rfl (dv_fieldAddr rfl rfl) ?_
   refine ed (fl x.Stiff) rfl rfl (dv_load rfl (ld_box (hS.box 1 rfl) rfl rfl rfl)) ?_
   refine ed (fd (up64 x.Stiff)) rfl rfl (dv_conv rfl (cv_up rfl rfl rfl)) ?_
   refine E_call (vs := [fd (up64 x.Stiff), fd (up64 x.Stiff)]) rfl rfl rfl rfl rfl rfl rfl (sameFloat_ok (up64 x.Stiff) (up64 x.Stiff) _ (rfl)) ?_
   rintro _ H ⟨rfl, hQ⟩
   have hS := hS.up hQ.keep
   refine ed no rfl rfl (dv_un rfl rfl) ?_
   refine E_nil ?_
   refine th_norm ?_
   refine AWp_cond (t := false) rfl nofun (fun _ => ?_)
   refine AWp_skip ?_
   refine th_norm ?_
   refine AWp_seq ?_
   refine AWp_E rfl ?_
   refine ed yes rfl rfl (dv_assign rfl) ?_
   refine E_nil ?_
   refine th_norm ?_
   refine AWp_ret (?_)
   refine ret_of ?_
   refine readsRes_of (rs := [.tmp 4]) (vs := [yes]) rfl (re_cons (re_tmp rfl) (re_nil)) rfl ?_
   refine ⟨rfl, .base hS.keep⟩
theorem eqVectorS_ok (a_a : Option Addr) (a_n a_c : Nat) (a : List (V3)) (b_a : Option Addr) (b_n b_c : Nat) (b : List (V3)) (H : AH) (ha : VS H encV a_a a_n a) (hb : VS H encV b_a b_n b) (hab : a = b) : ACalls Tryz.prog 19 [sv a_a a_n a_c, sv b_a b_n b_c] H
  (fun r H' => r = yes ∧ SepL H [] H') := by
 refine ACalls_of Tryz.func19 rfl (Nat.le_of_ble_eq_true rfl) ?_
 obtain ⟨H0, hH0⟩ : ∃ H0, H0 = H := ⟨_, rfl⟩
 have hS : SepL H0 [] H := hH0 ▸ SepL.refl H
 subst hH0
 obtain ⟨ha_s, ha_n, ha_b⟩ := id ha
 obtain ⟨hb_s, hb_n, hb_b⟩ := id hb
 subst hab
 refine AWp_seq ?_
 refine AWp_E rfl ?_
 refine ed no rfl rfl (dv_assign rfl) ?_
 refine E_nil ?_
 refine th_norm ?_
 refine AWp_seq ?_
 refine AWp_seq ?_
 refine AWp_E rfl ?_
 refine ed (sv a_a a_n a_c) rfl rfl (dv_move rfl) ?_
 refine ed (iv ((a_n : Nat) : Int)) rfl rfl (dv_len rfl rfl rfl rfl rfl) ?_
 refine ed (sv b_a b_n b_c) rfl rfl (dv_move rfl) ?_
 refine ed (iv ((b_n : Nat) : Int)) rfl rfl (dv_len rfl rfl rfl rfl rfl) ?_
 rcases Decidable.em (((a_n : Nat) : Int) ≠ ((b_n : Nat) : Int)) with hc1 | hc1
 ·
  refine ed yes rfl rfl (dv_bin rfl rfl (bi_neq_t hc1)) ?_
  refine E_nil ?_
  refine th_norm ?_
  refine AWp_cond (t := true) rfl (fun _ => ?_) nofun
  refine AWp_seq ?_
  refine AWp_E rfl ?_
  refine ed no rfl rfl (dv_assign rfl) ?_
  refine E_nil ?_
  refine th_norm ?_
  refine AWp_ret (th_ret (?_))
  refine ret_of ?_
  refine readsRes_of (rs := [.tmp 4]) (vs := [no]) rfl (re_cons (re_tmp rfl) (re_nil)) rfl ?_
  exfalso; first | omega | (simp_all; done)
 ·
  refine ed no rfl rfl (dv_bin rfl rfl (bi_neq_f hc1)) ?_
  refine E_nil ?_
  refine th_norm ?_
  refine AWp_cond (t := false) rfl nofun (fun _ => ?_)
  refine AWp_skip ?_
  refine th_norm ?_
  refine AWp_seq ?_
  refine AWp_seq ?_
  refine AWp_E rfl ?_
  refine ed (iv 0) rfl rfl (dv_assign rfl) ?_
  refine E_nil ?_
  refine th_norm ?_
  refine AWp_block ?_
  obtain ⟨I2, hI2⟩ : ∃ I : Nat → Env → AH → Prop, ∀ m_ e_ Hl, I m_ e_ Hl = (∃ (t4 : Bool) (i : Nat), m_ = a_n - i ∧ AllE [(0, sv a_a a_n a_c), (1, sv b_a b_n b_c), (4, .bool t4), (5, iv ((i : Nat) : Int)), (6, sv a_a a_n a_c), (7, iv ((a_n : Nat) : Int)), (8, sv b_a b_n b_c), (9, iv ((b_n : Nat) : Int)), (10, no)] e_ ∧ SepL H0 [] Hl ∧ (i ≤ a_n)) := ⟨_, fun _ _ _ => rfl⟩
  refine AWp_loop I2 (a_n - (0)) ?_ ?_
  ·
   rw [hI2]
   refine ⟨false, 0, rfl, (all_c rfl (all_c rfl (all_c rfl (all_c rfl (all_c rfl (all_c rfl (all_c rfl (all_c rfl (all_c rfl all_n))))))))), hS, ?_⟩
   · omega
  ·
   intro m3 _ H hl4
   rw [hI2] at hl4
   obtain ⟨t4, i, hm5, he6, hS, hi⟩ := hl4
   obtain ⟨e7, rfl⟩ := he6.ex
   refine AWp_seq ?_
   refine AWp_seq ?_
   refine AWp_E rfl ?_
   refine ed (iv ((i : Nat) : Int)) rfl rfl (dv_move rfl) ?_
   refine ed (sv a_a a_n a_c) rfl rfl (dv_move rfl) ?_
   refine ed (iv ((a_n : Nat) : Int)) rfl rfl (dv_len rfl rfl rfl rfl rfl) ?_
   rcases Decidable.em (((i : Nat) : Int) < ((a_n : Nat) : Int)) with hc8 | hc8
   ·
    refine ed yes rfl rfl (dv_bin rfl rfl (bi_lss_t hc8)) ?_
    refine E_nil ?_
    refine th_norm ?_
    refine AWp_cond (t := true) rfl (fun _ => ?_) nofun
    refine AWp_skip ?_
    refine th_norm ?_
    refine AWp_seq ?_
    refine AWp_block ?_
    refine AWp_seq ?_
    have hR := hS.pushes
    have hKb := hS.keep
    have hB := fun Hc (hc : Keep _ Hc) => hR [] Hc (.base hc)
    refine AWp_D0 rfl (by decide +kernel) fun hM => ?_
    refine wd (sv a_a a_n a_c) rfl rfl (fun _ hc => dv_move rfl) ?_
    refine wd (iv ((i : Nat) : Int)) rfl rfl (fun _ hc => dv_move rfl) ?_
    obtain ⟨x9, hx9⟩ := get_el (xs := a) (i := i) (by omega)
    refine wd (sp a_a (i * 3)) rfl rfl (fun _ hc => dv_indexAddr (a := sv a_a a_n a_c) (b := iv ((i : Nat) : Int)) rfl rfl (ix_sls (n := a_n) (i := i) (ha_s.keep (hKb.trans hc)) hx9 rfl rfl rfl (by omega))) ?_
    refine wd (va x9) rfl rfl (fun _ hc => dv_load rfl (ld_slsA (sz := 3) (m := 3) (ys := [fl x9.x, fl x9.y, fl x9.z]) (off := 0) (ha_s.keep (hKb.trans hc)) hx9 (fun _ => rfl) rfl rfl (Nat.le_of_ble_eq_true rfl) rfl)) ?_
    refine wd (sv b_a b_n b_c) rfl rfl (fun _ hc => dv_move rfl) ?_
    refine wd (iv ((i : Nat) : Int)) rfl rfl (fun _ hc => dv_move rfl) ?_
    refine wd (sp b_a (i * 3)) rfl rfl (fun _ hc => dv_indexAddr (a := sv b_a b_n b_c) (b := iv ((i : Nat) : Int)) rfl rfl (ix_sls (n := b_n) (i := i) (hb_s.keep (hKb.trans hc)) hx9 rfl rfl rfl (by omega))) ?_
    refine wd (va x9) rfl rfl (fun _ hc => dv_load rfl (ld_slsA (sz := 3) (m := 3) (ys := [fl x9.x, fl x9.y, fl x9.z]) (off := 0) (hb_s.keep (hKb.trans hc)) hx9 (fun _ => rfl) rfl rfl (Nat.le_of_ble_eq_true rfl) rfl)) ?_
    refine W_call (vs := [va x9, va x9]) rfl rfl rfl rfl rfl rfl rfl (eqVector_ok x9 x9 _ (rfl)) ?_
    rintro _ H ⟨rfl, hQ⟩
    have hM := hM.up hQ.keep
    refine ⟨hM.keep, ?_⟩
    refine wd no rfl rfl (fun _ hc => dv_un rfl rfl) ?_
    have hS := hR _ _ hM
    refine W_nil ?_
    refine th_norm ?_
    refine AWp_cond (t := false) rfl nofun (fun _ => ?_)
    refine AWp_skip ?_
    refine bl_norm ?_
    refine th_norm ?_
    refine AWp_E rfl ?_
    refine ed (iv ((i : Nat) : Int)) rfl rfl (dv_move rfl) ?_
    refine ed (iv ((i + 1 : Nat) : Int)) rfl rfl (dv_bin rfl rfl (bi_add (by omega))) ?_
    refine ed (iv ((i + 1 : Nat) : Int)) rfl rfl (dv_assign rfl) ?_
    refine E_nil ?_
    refine loop_next (I := I2) (a_n - (i + 1)) (by rw [hm5]; omega) ?_
    rw [hI2]
    refine ⟨t4, i + 1, rfl, (all_c rfl (all_c rfl (all_c rfl (all_c rfl (all_c rfl (all_c rfl (all_c rfl (all_c rfl (all_c rfl all_n))))))))), hS, ?_⟩
    · omega
   ·
    refine ed no rfl rfl (dv_bin rfl rfl (bi_lss_f hc8)) ?_
    refine E_nil ?_
    refine th_norm ?_
    refine AWp_cond (t := false) rfl nofun (fun _ => ?_)
    refine AWp_exit (th_exit (th_exit (bl_exit (?_))))
    refine th_norm ?_
    refine AWp_seq ?_
    refine AWp_E rfl ?_
    refine ed yes rfl rfl (dv_assign rfl) ?_
    refine E_nil ?_
    refine th_norm ?_
    refine AWp_ret (?_)
    refine ret_of ?_
    refine readsRes_of (rs := [.tmp 4]) (vs := [yes]) rfl (re_cons (re_tmp rfl) (re_nil)) rfl ?_
    refine ⟨rfl, .base hS.keep⟩
theorem eqSpringS_ok (a_a : Option Addr) (a_n a_c : Nat) (a : List (Spr)) (b_a : Option Addr) (b_n b_c : Nat) (b : List (Spr)) (H : AH) (ha : VS H encS a_a a_n a) (hb : VS H encS b_a b_n b) (hab : a = b) : ACalls Tryz.prog 60 [sv a_a a_n a_c, sv b_a b_n b_c] H
  (fun r H' => r = yes ∧ SepL H [] H') := by
 refine ACalls_of Tryz.func60 rfl (Nat.le_of_ble_eq_true rfl) ?_
 obtain ⟨H0, hH0⟩ : ∃ H0, H0 = H := ⟨_, rfl⟩
 have hS : SepL H0 [] H := hH0 ▸ SepL.refl H
 subst hH0
 obtain ⟨ha_s, ha_n, ha_b⟩ := id ha
 obtain ⟨hb_s, hb_n, hb_b⟩ := id hb
 subst hab
 refine AWp_seq ?_
 refine AWp_E rfl ?_
 refine ed no rfl rfl (dv_assign rfl) ?_
 refine E_nil ?_
 refine th_norm ?_
 refine AWp_seq ?_
 refine AWp_seq ?_
 refine AWp_E rfl ?_
 refine ed (sv a_a a_n a_c) rfl rfl (dv_move rfl) ?_
 refine ed (iv ((a_n : Nat) : Int)) rfl rfl (dv_len rfl rfl rfl rfl rfl) ?_
 refine ed (sv b_a b_n b_c) rfl rfl (dv_move rfl) ?_
 refine ed (iv ((b_n : Nat) : Int)) rfl rfl (dv_len rfl rfl rfl rfl rfl) ?_
 rcases Decidable.em (((a_n : Nat) : Int) ≠ ((b_n : Nat) : Int)) with hc1 | hc1
 ·
  refine ed yes rfl rfl (dv_bin rfl rfl (bi_neq_t hc1)) ?_
  refine E_nil ?_
  refine th_norm ?_
  refine AWp_cond (t := true) rfl (fun _ => ?_) nofun
  refine AWp_seq ?_
  refine AWp_E rfl ?_
  refine ed no rfl rfl (dv_assign rfl) ?_
  refine E_nil ?_
  refine th_norm ?_
  refine AWp_ret (th_ret (?_))
  refine ret_of ?_
  refine readsRes_of (rs := [.tmp 4]) (vs := [no]) rfl (re_cons (re_tmp rfl) (re_nil)) rfl ?_
  exfalso; first | omega | (simp_all; done)
 ·
  refine ed no rfl rfl (dv_bin rfl rfl (bi_neq_f hc1)) ?_
  refine E_nil ?_
  refine th_norm ?_
  refine AWp_cond (t := false) rfl nofun (fun _ => ?_)
  refine AWp_skip ?_
  refine th_norm ?_
  refine AWp_seq ?_
  refine AWp_seq ?_
  refine AWp_E rfl ?_
  refine ed (iv 0) rfl rfl (dv_assign rfl) ?_
  refine E_nil ?_
  refine th_norm ?_
  refine AWp_block ?_
  obtain ⟨I2, hI2⟩ : ∃ I : Nat → Env → AH → Prop, ∀ m_ e_ Hl, I m_ e_ Hl = (∃ (t4 : Bool) (i : Nat), m_ = a_n - i ∧ AllE [(0, sv a_a a_n a_c), (1, sv b_a b_n b_c), (4, .bool t4), (5, iv ((i : Nat) : Int)), (6, sv a_a a_n a_c), (7, iv ((a_n : Nat) : Int)), (8, sv b_a b_n b_c), (9, iv ((b_n : Nat) : Int)), (10, no)] e_ ∧ SepL H0 [] Hl ∧ (i ≤ a_n)) := ⟨_, fun _ _ _ => rfl⟩
  refine AWp_loop I2 (a_n - (0)) ?_ ?_
  ·
   rw [hI2]
   refine ⟨false, 0, rfl, (all_c rfl (all_c rfl (all_c rfl (all_c rfl (all_c rfl (all_c rfl (all_c rfl (all_c rfl (all_c rfl all_n))))))))), hS, ?_⟩
   · omega
  ·
   intro m3 _ H hl4
   rw [hI2] at hl4
   obtain ⟨t4, i, hm5, he6, hS, hi⟩ := hl4
   obtain ⟨e7, rfl⟩ := he6.ex
   refine AWp_seq ?_
   refine AWp_seq ?_
   refine AWp_E rfl ?_
   refine ed (iv ((i : Nat) : Int)) rfl rfl (dv_move rfl) ?_
   refine ed (sv a_a a_n a_c) rfl rfl (dv_move rfl) ?_
   refine ed (iv ((a_n : Nat) : Int)) rfl rfl (dv_len rfl rfl rfl rfl rfl) ?_
   rcases Decidable.em (((i : Nat) : Int) < ((a_n : Nat) : Int)) with hc8 | hc8
   ·
    refine ed yes rfl rfl (dv_bin rfl rfl (bi_lss_t hc8)) ?_
    refine E_nil ?_
    refine th_norm ?_
    refine AWp_cond (t := true) rfl (fun _ => ?_) nofun
    refine AWp_skip ?_
    refine th_norm ?_
    refine AWp_seq ?_
    refine AWp_block ?_
    refine AWp_seq ?_
    have hR := hS.pushes
    have hKb := hS.keep
    have hB := fun Hc (hc : Keep _ Hc) => hR [] Hc (.base hc)
    refine AWp_D0 rfl (by decide +kernel) fun hM => ?_
    refine wd (sv a_a a_n a_c) rfl rfl (fun _ hc => dv_move rfl) ?_
    refine wd (iv ((i : Nat) : Int)) rfl rfl (fun _ hc => dv_move rfl) ?_
    obtain ⟨x9, hx9⟩ := get_el (xs := a) (i := i) (by omega)
    refine wd (sp a_a (i * 4)) rfl rfl (fun _ hc => dv_indexAddr (a := sv a_a a_n a_c) (b := iv ((i : Nat) : Int)) rfl rfl (ix_sls (n := a_n) (i := i) (ha_s.keep (hKb.trans hc)) hx9 rfl rfl rfl (by omega))) ?_
    refine wd (.agg #[iv x9.A, iv x9.B, fl x9.Long, fl x9.Stiff]) rfl rfl (fun _ hc => dv_load rfl (ld_slsA (sz := 4) (m := 4) (ys := [iv x9.A, iv x9.B, fl x9.Long, fl x9.Stiff]) (off := 0) (ha_s.keep (hKb.trans hc)) hx9 (fun _ => rfl) rfl rfl (Nat.le_of_ble_eq_true rfl) rfl)) ?_
    refine wd (sv b_a b_n b_c) rfl rfl (fun _ hc => dv_move rfl) ?_
    refine wd (iv ((i : Nat) : Int)) rfl rfl (fun _ hc => dv_move rfl) ?_
    refine wd (sp b_a (i * 4)) rfl rfl (fun _ hc => dv_indexAddr (a := sv b_a b_n b_c) (b := iv ((i : Nat) : Int)) rfl rfl (ix_sls (n := b_n) (i := i) (hb_s.keep (hKb.trans hc)) hx9 rfl rfl rfl (by omega))) ?_
    refine wd (.agg #[iv x9.A, iv x9.B, fl x9.Long, fl x9.Stiff]) rfl rfl (fun _ hc => dv_load rfl (ld_slsA (sz := 4) (m := 4) (ys := [iv x9.A, iv x9.B, fl x9.Long, fl x9.Stiff]) (off := 0) (hb_s.keep (hKb.trans hc)) hx9 (fun _ => rfl) rfl rfl (Nat.le_of_ble_eq_true rfl) rfl)) ?_
    refine W_call (vs := [.agg #[iv x9.A, iv x9.B, fl x9.Long, fl x9.Stiff], .agg #[iv x9.A, iv x9.B, fl x9.Long, fl x9.Stiff]]) rfl rfl rfl rfl rfl rfl rfl (eqSpring_ok x9 x9 _ (rfl)) ?_
    rintro _ H ⟨rfl, hQ⟩
    have hM := hM.up hQ.keep
    refine ⟨hM.keep, ?_⟩
    refine wd no rfl rfl (fun _ hc => dv_un rfl rfl) ?_
    have hS := hR _ _ hM
    refine W_nil ?_
    refine th_norm ?_
    refine AWp_cond (t := false) rfl nofun (fun _ => ?_)
    refine AWp_skip ?_
    refine bl_norm ?_
    refine th_norm ?_
    refine AWp_E rfl ?_
    refine ed (iv ((i : Nat) : Int)) rfl rfl (dv_move rfl) ?_
    refine ed (iv ((i + 1 : Nat) : Int)) rfl rfl (dv_bin rfl rfl (bi_add (by omega))) ?_
    refine ed (iv ((i + 1 : Nat) : Int)) rfl rfl (dv_assign rfl) ?_
    refine E_nil ?_
    refine loop_next (I := I2) (a_n - (i + 1)) (by rw [hm5]; omega) ?_
    rw [hI2]
    refine ⟨t4, i + 1, rfl, (all_c rfl (all_c rfl (all_c rfl (all_c rfl (all_c rfl (all_c rfl (all_c rfl (all_c rfl (all_c rfl all_n))))))))), hS, ?_⟩
    · omega
   ·
    refine ed no rfl rfl (dv_bin rfl rfl (bi_lss_f hc8)) ?_
    refine E_nil ?_
    refine th_norm ?_
    refine AWp_cond (t := false) rfl nofun (fun _ => ?_)
    refine AWp_exit (th_exit (th_exit (bl_exit (?_))))
    refine th_norm ?_
    refine AWp_seq ?_
    refine AWp_E rfl ?_
    refine ed yes rfl rfl (dv_assign rfl) ?_
    refine E_nil ?_
    refine th_norm ?_
    refine AWp_ret (?_)
    refine ret_of ?_
    refine readsRes_of (rs := [.tmp 4]) (vs := [yes]) rfl (re_cons (re_tmp rfl) (re_nil)) rfl ?_
    refine ⟨rfl, .base hS.keep⟩
theorem eqInt64S_ok (a_a : Option Addr) (a_n a_c : Nat) (a : List (Int)) (b_a : Option Addr) (b_n b_c : Nat) (b : List (Int)) (H : AH) (ha : VS H encI a_a a_n a) (hb : VS H encI b_a b_n b) (hab : a = b) : ACalls Tryz.prog 28 [sv a_a a_n a_c, sv b_a b_n b_c] H
  (fun r H' => r = yes ∧ SepL H [] H') := by
 refine ACalls_of Tryz.func28 rfl (Nat.le_of_ble_eq_true rfl) ?_
 obtain ⟨H0, hH0⟩ : ∃ H0, H0 = H := ⟨_, rfl⟩
 have hS : SepL H0 [] H := hH0 ▸ SepL.refl H
 subst hH0
 obtain ⟨ha_s, ha_n, ha_b⟩ := id ha
 obtain ⟨hb_s, hb_n, hb_b⟩ := id hb
 subst hab
 refine AWp_seq ?_
 refine AWp_E rfl ?_
 refine ed no rfl rfl (dv_assign rfl) ?_
 refine E_nil ?_
 refine th_norm ?_
 refine AWp_seq ?_
 refine AWp_seq ?_
 refine AWp_E rfl ?_
 refine ed (sv a_a a_n a_c) rfl rfl (dv_move rfl) ?_
 refine ed (iv ((a_n : Nat) : Int)) rfl rfl (dv_len rfl rfl rfl rfl rfl) ?_
 refine ed (sv b_a b_n b_c) rfl rfl (dv_move rfl) ?_
 refine ed (iv ((b_n : Nat) : Int)) rfl rfl (dv_len rfl rfl rfl rfl rfl) ?_
 rcases Decidable.em (((a_n : Nat) : Int) ≠ ((b_n : Nat) : Int)) with hc1 | hc1
 ·
  refine ed yes rfl rfl (dv_bin rfl rfl (bi_neq_t hc1)) ?_
  refine E_nil ?_
  refine th_norm ?_
  refine AWp_cond (t := true) rfl (fun _ => ?_) nofun
  refine AWp_seq ?_
  refine AWp_E rfl ?_
  refine ed no rfl rfl (dv_assign rfl) ?_
  refine E_nil ?_
  refine th_norm ?_
  refine AWp_ret (th_ret (?_))
  refine ret_of ?_
  refine readsRes_of (rs := [.tmp 4]) (vs := [no]) rfl (re_cons (re_tmp rfl) (re_nil)) rfl ?_
  exfalso; first | omega | (simp_all; done)
 ·
  refine ed no rfl rfl (dv_bin rfl rfl (bi_neq_f hc1)) ?_
  refine E_nil ?_
  refine th_norm ?_
  refine AWp_cond (t := false) rfl nofun (fun _ => ?_)
  refine AWp_skip ?_
  refine th_norm ?_
  refine AWp_seq ?_
  refine AWp_seq ?_
  refine AWp_E rfl ?_
  refine ed (iv 0) rfl rfl (dv_assign rfl) ?_
  refine E_nil ?_
  refine th_norm ?_
  refine AWp_block ?_
  obtain ⟨I2, hI2⟩ : ∃ I : Nat → Env → AH → Prop, ∀ m_ e_ Hl, I m_ e_ Hl = (∃ (t4 : Bool) (i : Nat), m_ = a_n - i ∧ AllE [(0, sv a_a a_n a_c), (1, sv b_a b_n b_c), (4, .bool t4), (5, iv ((i : Nat) : Int)), (6, sv a_a a_n a_c), (7, iv ((a_n : Nat) : Int)), (8, sv b_a b_n b_c), (9, iv ((b_n : Nat) : Int)), (10, no)] e_ ∧ SepL H0 [] Hl ∧ (i ≤ a_n)) := ⟨_, fun _ _ _ => rfl⟩
  refine AWp_loop I2 (a_n - (0)) ?_ ?_
  ·
   rw [hI2]
   refine ⟨false, 0, rfl, (all_c rfl (all_c rfl (all_c rfl (all_c rfl (all_c rfl (all_c rfl (all_c rfl (all_c rfl (all_c rfl all_n))))))))), hS, ?_⟩
   · omega
  ·
   intro m3 _ H hl4
   rw [hI2] at hl4
   obtain ⟨t4, i, hm5, he6, hS, hi⟩ := hl4
   obtain ⟨e7, rfl⟩ := he6.ex
   refine AWp_seq ?_
   refine AWp_seq ?_
   refine AWp_E rfl ?_
   refine ed (iv ((i : Nat) : Int)) rfl rfl (dv_move rfl) ?_
   refine ed (sv a_a a_n a_c) rfl rfl (dv_move rfl) ?_
   refine ed (iv ((a_n : Nat) : Int)) rfl rfl (dv_len rfl rfl rfl rfl rfl) ?_
   rcases Decidable.em (((i : Nat) : Int) < ((a_n : Nat) : Int)) with hc8 | hc8
   ·
    refine ed yes rfl rfl (dv_bin rfl rfl (bi_lss_t hc8)) ?_
    refine E_nil ?_
    refine th_norm ?_
    refine AWp_cond (t := true) rfl (fun _ => ?_) nofun
    refine AWp_skip ?_
    refine th_norm ?_
    refine AWp_seq ?_
    refine AWp_block ?_
    refine AWp_seq ?_
    have hR := hS.pushes
    have hKb := hS.keep
    have hB := fun Hc (hc : Keep _ Hc) => hR [] Hc (.base hc)
    refine AWp_D0 rfl (by decide +kernel) fun hM => ?_
    refine wd (sv a_a a_n a_c) rfl rfl (fun _ hc => dv_move rfl) ?_
    refine wd (iv ((i : Nat) : Int)) rfl rfl (fun _ hc => dv_move rfl) ?_
    obtain ⟨x9, hx9⟩ := get_el (xs := a) (i := i) (by omega)
    refine wd (sp a_a (i * 1)) rfl rfl (fun _ hc => dv_indexAddr (a := sv a_a a_n a_c) (b := iv ((i : Nat) : Int)) rfl rfl (ix_sls (n := a_n) (i := i) (ha_s.keep (hKb.trans hc)) hx9 rfl rfl rfl (by omega))) ?_
    refine wd (iv x9) rfl rfl (fun _ hc => dv_load rfl (ld_sls (sz := 1) (off := 0) (ha_s.keep (hKb.trans hc)) hx9 (fun _ => rfl) rfl rfl rfl)) ?_
    refine wd (sv b_a b_n b_c) rfl rfl (fun _ hc => dv_move rfl) ?_
    refine wd (iv ((i : Nat) : Int)) rfl rfl (fun _ hc => dv_move rfl) ?_
    refine wd (sp b_a (i * 1)) rfl rfl (fun _ hc => dv_indexAddr (a := sv b_a b_n b_c) (b := iv ((i : Nat) : Int)) rfl rfl (ix_sls (n := b_n) (i := i) (hb_s.keep (hKb.trans hc)) hx9 rfl rfl rfl (by omega))) ?_
    refine wd (iv x9) rfl rfl (fun _ hc => dv_load rfl (ld_sls (sz := 1) (off := 0) (hb_s.keep (hKb.trans hc)) hx9 (fun _ => rfl) rfl rfl rfl)) ?_
    rcases Decidable.em ((x9 : Int) ≠ x9) with hc10 | hc10
    ·
     refine wd yes rfl rfl (fun _ hc => dv_bin rfl rfl (bi_neq_t hc10)) ?_
     have hS := hR _ _ hM
     refine W_nil ?_
     refine th_norm ?_
     refine AWp_cond (t := true) rfl (fun _ => ?_) nofun
     refine AWp_seq ?_
     refine AWp_E rfl ?_
     refine ed no rfl rfl (dv_assign rfl) ?_
     refine E_nil ?_
     refine th_norm ?_
     refine AWp_ret (bl_ret (th_ret (th_ret (bl_ret (th_ret (?_))))))
     refine ret_of ?_
     refine readsRes_of (rs := [.tmp 4]) (vs := [no]) rfl (re_cons (re_tmp rfl) (re_nil)) rfl ?_
     exfalso; first | omega | (simp_all; done)
    ·
     refine wd no rfl rfl (fun _ hc => dv_bin rfl rfl (bi_neq_f hc10)) ?_
     have hS := hR _ _ hM
     refine W_nil ?_
     refine th_norm ?_
     refine AWp_cond (t := false) rfl nofun (fun _ => ?_)
     refine AWp_skip ?_
     refine bl_norm ?_
     refine th_norm ?_
     refine AWp_E rfl ?_
     refine ed (iv ((i : Nat) : Int)) rfl rfl (dv_move rfl) ?_
     refine ed (iv ((i + 1 : Nat) : Int)) rfl rfl (dv_bin rfl rfl (bi_add (by omega))) ?_
     refine ed (iv ((i + 1 : Nat) : Int)) rfl rfl (dv_assign rfl) ?_
     refine E_nil ?_
     refine loop_next (I := I2) (a_n - (i + 1)) (by rw [hm5]; omega) ?_
     rw [hI2]
     refine ⟨t4, i + 1, rfl, (all_c rfl (all_c rfl (all_c rfl (all_c rfl (all_c rfl (all_c rfl (all_c rfl (all_c rfl (all_c rfl all_n))))))))), hS, ?_⟩
     · omega
   ·
    refine ed no rfl rfl (dv_bin rfl rfl (bi_lss_f hc8)) ?_
    refine E_nil ?_
    refine th_norm ?_
    refine AWp_cond (t := false) rfl nofun (fun _ => ?_)
    refine AWp_exit (th_exit (th_exit (bl_exit (?_))))
    refine th_norm ?_
    refine AWp_seq ?_
    refine AWp_E rfl ?_
    refine ed yes rfl rfl (dv_assign rfl) ?_
    refine E_nil ?_
    refine th_norm ?_
    refine AWp_ret (?_)
    refine ret_of ?_
    refine readsRes_of (rs := [.tmp 4]) (vs := [yes]) rfl (re_cons (re_tmp rfl) (re_nil)) rfl ?_
    refine ⟨rfl, .base hS.keep⟩
theorem eqFloat32S_ok (a_a : Option Addr) (a_n a_c : Nat) (a : List (Nat)) (b_a : Option Addr) (b_n b_c : Nat) (b : List (Nat)) (H : AH) (ha : VS H encF a_a a_n a) (hb : VS H encF b_a b_n b) (hab : a = b) : ACalls Tryz.prog 17 [sv a_a a_n a_c, sv b_a b_n b_c] H
  (fun r H' => r = yes ∧ SepL H [] H') := by
 refine ACalls_of Tryz.func17 rfl (Nat.le_of_ble_eq_true rfl) ?_
 obtain ⟨H0, hH0⟩ : ∃ H0, H0 = H := ⟨_, rfl⟩
 have hS : SepL H0 [] H := hH0 ▸ SepL.refl H
 subst hH0
 obtain ⟨ha_s, ha_n, ha_b⟩ := id ha
 obtain ⟨hb_s, hb_n, hb_b⟩ := id hb
 subst hab
 refine AWp_seq ?_
 refine AWp_E rfl ?_
 refine ed no rfl rfl (dv_assign rfl) ?_
 refine E_nil ?_
 refine th_norm ?_
 refine AWp_seq ?_
 refine AWp_seq ?_
 refine AWp_E rfl ?_
 refine ed (sv a_a a_n a_c) rfl rfl (dv_move rfl) ?_
 refine ed (iv ((a_n : Nat) : Int)) rfl rfl (dv_len rfl rfl rfl rfl rfl) ?_
 refine ed (sv b_a b_n b_c) rfl rfl (dv_move rfl) ?_
 refine ed (iv ((b_n : Nat) : Int)) rfl rfl (dv_len rfl rfl rfl rfl rfl) ?_
 rcases Decidable.em (((a_n : Nat) : Int) ≠ ((b_n : Nat) : Int)) with hc1 | hc1
 ·
  refine ed yes rfl rfl (dv_bin rfl rfl (bi_neq_t hc1)) ?_
  refine E_nil ?_
  refine th_norm ?_
  refine AWp_cond (t := true) rfl (fun _ => ?_) nofun
  refine AWp_seq ?_
  refine AWp_E rfl ?_
  refine ed no rfl rfl (dv_assign rfl) ?_
  refine E_nil ?_
  refine th_norm ?_
  refine AWp_ret (th_ret (?_))
  refine ret_of ?_
  refine readsRes_of (rs := [.tmp 4]) (vs := [no]) rfl (re_cons (re_tmp rfl) (re_nil)) rfl ?_
  exfalso; first | omega | (simp_all; done)
 ·
  refine ed no rfl rfl (dv_bin rfl rfl (bi_neq_f hc1)) ?_
  refine E_nil ?_
  refine th_norm ?_
  refine AWp_cond (t := false) rfl nofun (fun _ => ?_)
  refine AWp_skip ?_
  refine th_norm ?_
  refine AWp_seq ?_
  refine AWp_seq ?_
  refine AWp_E rfl ?_
  refine ed (iv 0) rfl rfl (dv_assign rfl) ?_
  refine E_nil ?_
  refine th_norm ?_
  refine AWp_block ?_
  obtain ⟨I2, hI2⟩ : ∃ I : Nat → Env → AH → Prop, ∀ m_ e_ Hl, I m_ e_ Hl = (∃ (t4 : Bool) (i : Nat), m_ = a_n - i ∧ AllE [(0, sv a_a a_n a_c), (1, sv b_a b_n b_c), (4, .bool t4), (5, iv ((i : Nat) : Int)), (6, sv a_a a_n a_c), (7, iv ((a_n : Nat) : Int)), (8, sv b_a b_n b_c), (9, iv ((b_n : Nat) : Int)), (10, no)] e_ ∧ SepL H0 [] Hl ∧ (i ≤ a_n)) := ⟨_, fun _ _ _ => rfl⟩
  refine AWp_loop I2 (a_n - (0)) ?_ ?_
  ·
   rw [hI2]
   refine ⟨false, 0, rfl, (all_c rfl (all_c rfl (all_c rfl (all_c rfl (all_c rfl (all_c rfl (all_c rfl (all_c rfl (all_c rfl all_n))))))))), hS, ?_⟩
   · omega
  ·
   intro m3 _ H hl4
   rw [hI2] at hl4
   obtain ⟨t4, i, hm5, he6, hS, hi⟩ := hl4
   obtain ⟨e7, rfl⟩ := he6.ex
   refine AWp_seq ?_
   refine AWp_seq ?_
   refine AWp_E rfl ?_
   refine ed (iv ((i : Nat) : Int)) rfl rfl (dv_move rfl) ?_
   refine ed (sv a_a a_n a_c) rfl rfl (dv_move rfl) ?_
   refine ed (iv ((a_n : Nat) : Int)) rfl rfl (dv_len rfl rfl rfl rfl rfl) ?_
   rcases Decidable.em (((i : Nat) : Int) < ((a_n : Nat) : Int)) with hc8 | hc8
   ·
    refine ed yes rfl rfl (dv_bin rfl rfl (bi_lss_t hc8)) ?_
    refine E_nil ?_
    refine th_norm ?_
    refine AWp_cond (t := true) rfl (fun _ => ?_) nofun
    refine AWp_skip ?_
    refine th_norm ?_
    refine AWp_seq ?_
    refine AWp_block ?_
    refine AWp_seq ?_
    have hR := hS.pushes
    have hKb := hS.keep
    have hB := fun Hc (hc : Keep _ Hc) => hR [] Hc (.base hc)
    refine AWp_D0 rfl (by decide +kernel) fun hM => ?_
    refine wd (sv a_a a_n a_c) rfl rfl (fun _ hc => dv_move rfl) ?_
    refine wd (iv ((i : Nat) : Int)) rfl rfl (fun _ hc => dv_move rfl) ?_
    obtain ⟨x9, hx9⟩ := get_el (xs := a) (i := i) (by omega)
    refine wd (sp a_a (i * 1)) rfl rfl (fun _ hc => dv_indexAddr (a := sv a_a a_n a_c) (b := iv ((i : Nat) : Int)) rfl rfl (ix_sls (n := a_n) (i := i) (ha_s.keep (hKb.trans hc)) hx9 rfl rfl rfl (by omega))) ?_
    refine wd (fl x9) rfl rfl (fun _ hc => dv_load rfl (ld_sls (sz := 1) (off := 0) (ha_s.keep (hKb.trans hc)) hx9 (fun _ => rfl) rfl rfl rfl)) ?_
    refine wd (fd (up64 x9)) rfl rfl (fun _ hc => dv_conv rfl (cv_up rfl rfl rfl)) ?_
    refine wd (sv b_a b_n b_c) rfl rfl (fun _ hc => dv_move rfl) ?_
    refine wd (iv ((i : Nat) : Int)) rfl rfl (fun _ hc => dv_move rfl) ?_
    refine wd (sp b_a (i * 1)) rfl rfl (fun _ hc => dv_indexAddr (a := sv b_a b_n b_c) (b := iv ((i : Nat) : Int)) rfl rfl (ix_sls (n := b_n) (i := i) (hb_s.keep (hKb.trans hc)) hx9 rfl rfl rfl (by omega))) ?_
    refine wd (fl x9) rfl rfl (fun _ hc => dv_load rfl (ld_sls (sz := 1) (off := 0) (hb_s.keep (hKb.trans hc)) hx9 (fun _ => rfl) rfl rfl rfl)) ?_
    refine wd (fd (up64 x9)) rfl rfl (fun _ hc => dv_conv rfl (cv_up rfl rfl rfl)) ?_
    refine W_call (vs := [fd (up64 x9), fd (up64 x9)]) rfl rfl rfl rfl rfl rfl rfl (sameFloat_ok (up64 x9) (up64 x9) _ (rfl)) ?_
    rintro _ H ⟨rfl, hQ⟩
    have hM := hM.up hQ.keep
    refine ⟨hM.keep, ?_⟩
    refine wd no rfl rfl (fun _ hc => dv_un rfl rfl) ?_
    have hS := hR _ _ hM
    refine W_nil ?_
    refine th_norm ?_
    refine AWp_cond (t := false) rfl nofun (fun _ => ?_)
    refine AWp_skip ?_
    refine bl_norm ?_
    refine th_norm ?_
    refine AWp_E rfl ?_
    refine ed (iv ((i : Nat) : Int)) rfl rfl (dv_move rfl) ?_
    refine ed (iv ((i + 1 : Nat) : Int)) rfl rfl (dv_bin rfl rfl (bi_add (by omega))) ?_
    refine ed (iv ((i + 1 : Nat) : Int)) rfl rfl (dv_assign rfl) ?_
    refine E_nil ?_
    refine loop_next (I := I2) (a_n - (i + 1)) (by rw [hm5]; omega) ?_
    rw [hI2]
    refine ⟨t4, i + 1, rfl, (all_c rfl (all_c rfl (all_c rfl (all_c rfl (all_c rfl (all_c rfl (all_c rfl (all_c rfl (all_c rfl all_n))))))))), hS, ?_⟩
    · omega
   ·
    refine ed no rfl rfl (dv_bin rfl rfl (bi_lss_f hc8)) ?_
    refine E_nil ?_
    refine th_norm ?_
    refine AWp_cond (t := false) rfl nofun (fun _ => ?_)
    refine AWp_exit (th_exit (th_exit (bl_exit (?_))))
    refine th_norm ?_
    refine AWp_seq ?_
    refine AWp_E rfl ?_
    refine ed yes rfl rfl (dv_assign rfl) ?_
    refine E_nil ?_
    refine th_norm ?_
    refine AWp_ret (?_)
    refine ret_of ?_
    refine readsRes_of (rs := [.tmp 4]) (vs := [yes]) rfl (re_cons (re_tmp rfl) (re_nil)) rfl ?_
    refine ⟨rfl, .base hS.keep⟩
theorem toInt64S_ok (a_a : Option Addr) (a_n a_c : Nat) (a : List (Int)) (H : AH) (ha : VS H encI a_a a_n a) : ACalls Tryz.prog 25 [sv a_a a_n a_c] H
  (fun r H' => ∃ (x_a : Option Addr), ∃ (x_n : Nat), ∃ (x_c : Nat), ∃ (x_ : List (Int)), x_ = a ∧ x_.length = x_n ∧ r = sv x_a x_n x_c ∧ SepL H [sl encI 2 1 x_a x_c x_] H') := by
 refine ACalls_of Tryz.func25 rfl (Nat.le_of_ble_eq_true rfl) ?_
 obtain ⟨H0, hH0⟩ : ∃ H0, H0 = H := ⟨_, rfl⟩
 have hS : SepL H0 [] H := hH0 ▸ SepL.refl H
 subst hH0
 obtain ⟨ha_s, ha_n, ha_b⟩ := id ha
 refine AWp_seq ?_
 refine AWp_E rfl ?_
 refine ed (sv none 0 0) rfl rfl (dv_assign rfl) ?_
 refine E_nil ?_
 refine th_norm ?_
 refine AWp_seq ?_
 refine AWp_E rfl ?_
 refine ed (sv a_a a_n a_c) rfl rfl (dv_move rfl) ?_
 refine ed (iv ((a_n : Nat) : Int)) rfl rfl (dv_len rfl rfl rfl rfl rfl) ?_
 refine S_make (sz := 1) (enc := encI) (z := (0 : Int)) hS rfl rfl rfl (dn_make (nb := 8) (n := a_n) (zs := [iv 0]) rfl rfl rfl rfl rfl rfl rfl (by omega) (by omega)) rfl rfl (by unfold maxLen; omega) fun a1 x2 H hx3 hn4 hS => ?_
 refine ed (sv a1 a_n a_n) rfl rfl (dv_assign rfl) ?_
 refine E_nil ?_
 refine th_norm ?_
 refine AWp_seq ?_
 refine AWp_seq ?_
 refine AWp_E rfl ?_
 refine ed (iv 0) rfl rfl (dv_assign rfl) ?_
 refine E_nil ?_
 refine th_norm ?_
 refine AWp_block ?_
 obtain ⟨I5, hI5⟩ : ∃ I : Nat → Env → AH → Prop, ∀ m_ e_ Hl, I m_ e_ Hl = (∃ (i : Nat) (o : List (Int)), m_ = a_n - i ∧ AllE [(0, sv a_a a_n a_c), (2, sv none 0 0), (3, sv a1 a_n a_n), (4, iv ((i : Nat) : Int)), (5, sv a_a a_n a_c), (6, iv ((a_n : Nat) : Int)), (7, sv a1 a_n a_n)] e_ ∧ SepL H0 [sl encI 2 1 a1 a_n o] Hl ∧ o.length = a_n ∧ (i ≤ a_n) ∧ (o = a.take i ++ List.replicate (a.length - i) (0 : Int))) := ⟨_, fun _ _ _ => rfl⟩
 refine AWp_loop I5 (a_n - (0)) ?_ ?_
 ·
  rw [hI5]
  refine ⟨0, x2, rfl, (all_c rfl (all_c rfl (all_c rfl (all_c rfl (all_c rfl (all_c rfl (all_c rfl all_n))))))), hS, hn4, ?_, ?_⟩
  · omega
  · simp [hx3, ha_n]
 ·
  intro m6 _ H hl7
  rw [hI5] at hl7
  obtain ⟨i, o, hm8, he9, hS, ho_n, hi, ho⟩ := hl7
  obtain ⟨e10, rfl⟩ := he9.ex
  refine AWp_seq ?_
  refine AWp_seq ?_
  refine AWp_E rfl ?_
  refine ed (iv ((i : Nat) : Int)) rfl rfl (dv_move rfl) ?_
  refine ed (sv a_a a_n a_c) rfl rfl (dv_move rfl) ?_
  refine ed (iv ((a_n : Nat) : Int)) rfl rfl (dv_len rfl rfl rfl rfl rfl) ?_
  rcases Decidable.em (((i : Nat) : Int) < ((a_n : Nat) : Int)) with hc11 | hc11
  ·
   refine ed yes rfl rfl (dv_bin rfl rfl (bi_lss_t hc11)) ?_
   refine E_nil ?_
   refine th_norm ?_
   refine AWp_cond (t := true) rfl (fun _ => ?_) nofun
   refine AWp_skip ?_
   refine th_norm ?_
   refine AWp_seq ?_
   refine AWp_block ?_
   refine AWp_E rfl ?_
   refine ed (sv a1 a_n a_n) rfl rfl (dv_move rfl) ?_
   refine ed (iv ((i : Nat) : Int)) rfl rfl (dv_move rfl) ?_
   refine ed (sv a_a a_n a_c) rfl rfl (dv_move rfl) ?_
   refine ed (iv ((i : Nat) : Int)) rfl rfl (dv_move rfl) ?_
   obtain ⟨x12, hx12⟩ := get_el (xs := a) (i := i) (by omega)
   refine ed (sp a_a (i * 1)) rfl rfl (dv_indexAddr (a := sv a_a a_n a_c) (b := iv ((i : Nat) : Int)) rfl rfl (ix_sls (n := a_n) (i := i) (ha_s.keep hS.keep) hx12 rfl rfl rfl (by omega))) ?_
   refine ed (iv x12) rfl rfl (dv_load rfl (ld_sls (sz := 1) (off := 0) (ha_s.keep hS.keep) hx12 (fun _ => rfl) rfl rfl rfl)) ?_
   obtain ⟨x13, hx13⟩ := get_el (xs := o) (i := i) (by omega)
   refine ed (sp a1 (i * 1)) rfl rfl (dv_indexAddr (a := sv a1 a_n a_n) (b := iv ((i : Nat) : Int)) rfl rfl (ix_sls (n := a_n) (i := i) (hS.sls 0 rfl) hx13 rfl rfl rfl (by omega))) ?_
   refine S_storeS (k := 0) (i := i) (z' := x12) (off := 0) (yv := iv x12) hS rfl rfl rfl rfl (fun _ => rfl) rfl rfl rfl hx13 rfl rfl rfl rfl fun H hS => ?_
   have hx14 := set_get (z := x12) hx13
   refine E_nil ?_
   refine bl_norm ?_
   refine th_norm ?_
   refine AWp_E rfl ?_
   refine ed (iv ((i : Nat) : Int)) rfl rfl (dv_move rfl) ?_
   refine ed (iv ((i + 1 : Nat) : Int)) rfl rfl (dv_bin rfl rfl (bi_add (by omega))) ?_
   refine ed (iv ((i + 1 : Nat) : Int)) rfl rfl (dv_assign rfl) ?_
   refine E_nil ?_
   refine loop_next (I := I5) (a_n - (i + 1)) (by rw [hm8]; omega) ?_
   rw [hI5]
   refine ⟨i + 1, o.set i x12, rfl, (all_c rfl (all_c rfl (all_c rfl (all_c rfl (all_c rfl (all_c rfl (all_c rfl all_n))))))), hS, (by rw [List.length_set]; exact ho_n), ?_, ?_⟩
   · omega
   · rw [ho]; exact set_step hx12
  ·
   refine ed no rfl rfl (dv_bin rfl rfl (bi_lss_f hc11)) ?_
   refine E_nil ?_
   refine th_norm ?_
   refine AWp_cond (t := false) rfl nofun (fun _ => ?_)
   refine AWp_exit (th_exit (th_exit (bl_exit (?_))))
   refine th_norm ?_
   refine AWp_seq ?_
   refine AWp_E rfl ?_
   refine ed (sv a1 a_n a_n) rfl rfl (dv_move rfl) ?_
   refine ed (sv a1 a_n a_n) rfl rfl (dv_assign rfl) ?_
   refine E_nil ?_
   refine th_norm ?_
   refine AWp_ret (?_)
   refine ret_of ?_
   refine readsRes_of (rs := [.tmp 2]) (vs := [sv a1 a_n a_n]) rfl (re_cons (re_tmp rfl) (re_nil)) rfl ?_
   refine ⟨a1, a_n, a_n, o, ?_, ho_n, rfl, hS.pick [0] rfl⟩
   · have hii : i = a.length := by omega
     rw [ho, hii]; simp
theorem toVector_ok (x : V3) (H : AH)  : ACalls Tryz.prog 54 [va x] H
  (fun r H' => ∃ (v_ : V3), x = v_ ∧ r = va v_ ∧ SepL H [] H') := by
 refine ACalls_of Tryz.func54 rfl (Nat.le_of_ble_eq_true rfl) ?_
 obtain ⟨H0, hH0⟩ : ∃ H0, H0 = H := ⟨_, rfl⟩
 have hS : SepL H0 [] H := hH0 ▸ SepL.refl H
 subst hH0
 refine AWp_seq ?_
 refine AWp_E rfl ?_
 refine S_box (l := [fl x.x, fl x.y, fl x.z]) hS rfl rfl rfl rfl rfl fun b1 H hS => ?_
 refine S_box (l := [fl 0, fl 0, fl 0]) hS rfl rfl rfl rfl rfl fun b2 H hS => ?_
 refine E_nil ?_
 refine th_norm ?_
 refine AWp_seq ?_
 refine AWp_E rfl ?_
 refine S_box (l := [fl 0, fl 0, fl 0]) hS rfl rfl rfl rfl rfl fun b3 H hS => ?_
 refine E_nil ?_
 refine th_norm ?_
 refine AWp_seq ?_
 refine AWp_E rfl ?_
 refine ed (pt b1 0) rfl rfl (dv_fieldAddr rfl rfl) ?_
 refine ed (fl x.x) rfl rfl (dv_load rfl (ld_box (hS.box 0 rfl) rfl rfl rfl)) ?_
 refine ed (pt b3 0) rfl rfl (dv_fieldAddr rfl rfl) ?_
 refine S_store (i := 2) (yv := fl x.x) (l' := [fl x.x, fl 0, fl 0]) hS rfl rfl rfl rfl rfl rfl rfl rfl rfl rfl rfl rfl fun H hS => ?_
 refine E_nil ?_
 refine th_norm ?_
 refine AWp_seq ?_
 refine AWp_E rfl ?_
 refine ed (pt b1 1) rfl rfl (dv_fieldAddr rfl rfl) ?_
 refine ed (fl x.y) rfl rfl (dv_load rfl (ld_box (hS.box 0 rfl) rfl rfl rfl)) ?_
 refine ed (pt b3 1) rfl rfl (dv_fieldAddr rfl rfl) ?_
 refine S_store (i := 2) (yv := fl x.y) (l' := [fl x.x, fl x.y, fl 0]) hS rfl rfl rfl rfl rfl rfl rfl rfl rfl rfl rfl rfl fun H hS => ?_
 refine E_nil ?_
 refine th_norm ?_
 refine AWp_seq ?_
 refine AWp_E rfl ?_
 refine ed (pt b1 2) rfl rfl (dv_fieldAddr rfl rfl) ?_
 refine ed (fl x.z) rfl rfl (dv_load rfl (ld_box (hS.box 0 rfl) rfl rfl rfl)) ?_
 refine ed (pt b3 2) rfl rfl (dv_fieldAddr rfl rfl) ?_
 refine S_store (i := 2) (yv := fl x.z) (l' := [fl x.x, fl x.y, fl x.z]) hS rfl rfl rfl rfl rfl rfl rfl rfl rfl rfl rfl rfl fun H hS => ?_
 refine E_nil ?_
 refine th_norm ?_
 refine AWp_seq ?_
 refine AWp_E rfl ?_
 refine ed (va x) rfl rfl (dv_load rfl (ld_boxA (n := 3) (hS.box 2 rfl) rfl rfl (Nat.le_of_ble_eq_true rfl) rfl)) ?_
 refine S_store (i := 1) (yv := va x) (l' := [fl x.x, fl x.y, fl x.z]) hS rfl rfl rfl rfl rfl rfl rfl rfl rfl rfl rfl rfl fun H hS => ?_
 refine E_nil ?_
 refine th_norm ?_
 refine AWp_ret (?_)
 refine ret_of ?_
 refine readsRes_of (rs := [.cell 2 41]) (vs := [va x]) rfl (re_cons (re_cell (p := pt b2 0) rfl (ld_boxA (n := 3) (hS.box 1 rfl) rfl rfl (Nat.le_of_ble_eq_true rfl) rfl)) (re_nil)) rfl ?_
 refine ⟨x, ?_, rfl, .base hS.keep⟩
 · first | rfl | omega | (simp [*]; done)
theorem toVectorS_ok (a_a : Option Addr) (a_n a_c : Nat) (a : List (V3)) (H : AH) (ha : VS H encV a_a a_n a) : ACalls Tryz.prog 15 [sv a_a a_n a_c] H
  (fun r H' => ∃ (x_a : Option Addr), ∃ (x_n : Nat), ∃ (x_c : Nat), ∃ (x_ : List (V3)), x_ = a ∧ x_.length = x_n ∧ r = sv x_a x_n x_c ∧ SepL H [sl encV 41 3 x_a x_c x_] H') := by
 refine ACalls_of Tryz.func15 rfl (Nat.le_of_ble_eq_true rfl) ?_
 obtain ⟨H0, hH0⟩ : ∃ H0, H0 = H := ⟨_, rfl⟩
 have hS : SepL H0 [] H := hH0 ▸ SepL.refl H
 subst hH0
 obtain ⟨ha_s, ha_n, ha_b⟩ := id ha
 refine AWp_seq ?_
 refine AWp_E rfl ?_
 refine ed (sv none 0 0) rfl rfl (dv_assign rfl) ?_
 refine E_nil ?_
 refine th_norm ?_
 refine AWp_seq ?_
 refine AWp_E rfl ?_
 refine ed (sv a_a a_n a_c) rfl rfl (dv_move rfl) ?_
 refine ed (iv ((a_n : Nat) : Int)) rfl rfl (dv_len rfl rfl rfl rfl rfl) ?_
 refine S_make (sz := 3) (enc := encV) (z := v0) hS rfl rfl rfl (dn_make (nb := 12) (n := a_n) (zs := [fl 0, fl 0, fl 0]) rfl rfl rfl rfl rfl rfl rfl (by omega) (by omega)) rfl rfl (by unfold maxLen; omega) fun a1 x2 H hx3 hn4 hS => ?_
 refine ed (sv a1 a_n a_n) rfl rfl (dv_assign rfl) ?_
 refine E_nil ?_
 refine th_norm ?_
 refine AWp_seq ?_
 refine AWp_seq ?_
 refine AWp_E rfl ?_
 refine ed (iv 0) rfl rfl (dv_assign rfl) ?_
 refine E_nil ?_
 refine th_norm ?_
 refine AWp_block ?_
 obtain ⟨I5, hI5⟩ : ∃ I : Nat → Env → AH → Prop, ∀ m_ e_ Hl, I m_ e_ Hl = (∃ (i : Nat) (o : List (V3)), m_ = a_n - i ∧ AllE [(0, sv a_a a_n a_c), (2, sv none 0 0), (3, sv a1 a_n a_n), (4, iv ((i : Nat) : Int)), (5, sv a_a a_n a_c), (6, iv ((a_n : Nat) : Int)), (7, sv a1 a_n a_n)] e_ ∧ SepL H0 [sl encV 41 3 a1 a_n o] Hl ∧ o.length = a_n ∧ (i ≤ a_n) ∧ (o = a.take i ++ List.replicate (a.length - i) v0)) := ⟨_, fun _ _ _ => rfl⟩
 refine AWp_loop I5 (a_n - (0)) ?_ ?_
 ·
  rw [hI5]
  refine ⟨0, x2, rfl, (all_c rfl (all_c rfl (all_c rfl (all_c rfl (all_c rfl (all_c rfl (all_c rfl all_n))))))), hS, hn4, ?_, ?_⟩
  · omega
  · simp [hx3, ha_n]
 ·
  intro m6 _ H hl7
  rw [hI5] at hl7
  obtain ⟨i, o, hm8, he9, hS, ho_n, hi, ho⟩ := hl7
  obtain ⟨e10, rfl⟩ := he9.ex
  refine AWp_seq ?_
  refine AWp_seq ?_
  refine AWp_E rfl ?_
  refine ed (iv ((i : Nat) : Int)) rfl rfl (dv_move rfl) ?_
  refine ed (sv a_a a_n a_c) rfl rfl (dv_move rfl) ?_
  refine ed (iv ((a_n : Nat) : Int)) rfl rfl (dv_len rfl rfl rfl rfl rfl) ?_
  rcases Decidable.em (((i : Nat) : Int) < ((a_n : Nat) : Int)) with hc11 | hc11
  ·
   refine ed yes rfl rfl (dv_bin rfl rfl (bi_lss_t hc11)) ?_
   refine E_nil ?_
   refine th_norm ?_
   refine AWp_cond (t := true) rfl (fun _ => ?_) nofun
   refine AWp_skip ?_
   refine th_norm ?_
   refine AWp_seq ?_
   refine AWp_block ?_
   refine AWp_E rfl ?_
   refine ed (sv a1 a_n a_n) rfl rfl (dv_move rfl) ?_
   refine ed (iv ((i : Nat) : Int)) rfl rfl (dv_move rfl) ?_
   refine ed (sv a_a a_n a_c) rfl rfl (dv_move rfl) ?_
   refine ed (iv ((i : Nat) : Int)) rfl rfl (dv_move rfl) ?_
   obtain ⟨x12, hx12⟩ := get_el (xs := a) (i := i) (by omega)
   refine ed (sp a_a (i * 3)) rfl rfl (dv_indexAddr (a := sv a_a a_n a_c) (b := iv ((i : Nat) : Int)) rfl rfl (ix_sls (n := a_n) (i := i) (ha_s.keep hS.keep) hx12 rfl rfl rfl (by omega))) ?_
   refine ed (va x12) rfl rfl (dv_load rfl (ld_slsA (sz := 3) (m := 3) (ys := [fl x12.x, fl x12.y, fl x12.z]) (off := 0) (ha_s.keep hS.keep) hx12 (fun _ => rfl) rfl rfl (Nat.le_of_ble_eq_true rfl) rfl)) ?_
   refine E_call (vs := [va x12]) rfl rfl rfl rfl rfl rfl rfl (toVector_ok x12 _) ?_
   rintro _ H ⟨v13, rfl, rfl, hQ⟩
   have hS := hS.up hQ.keep
   obtain ⟨x14, hx14⟩ := get_el (xs := o) (i := i) (by omega)
   refine ed (sp a1 (i * 3)) rfl rfl (dv_indexAddr (a := sv a1 a_n a_n) (b := iv ((i : Nat) : Int)) rfl rfl (ix_sls (n := a_n) (i := i) (hS.sls 0 rfl) hx14 rfl rfl rfl (by omega))) ?_
   refine S_storeS (k := 0) (i := i) (z' := x12) (off := 0) (yv := va x12) hS rfl rfl rfl rfl (fun _ => rfl) rfl rfl rfl hx14 rfl rfl rfl rfl fun H hS => ?_
   have hx15 := set_get (z := x12) hx14
   refine E_nil ?_
   refine bl_norm ?_
   refine th_norm ?_
   refine AWp_E rfl ?_
   refine ed (iv ((i : Nat) : Int)) rfl rfl (dv_move rfl) ?_
   refine ed (iv ((i + 1 : Nat) : Int)) rfl rfl (dv_bin rfl rfl (bi_add (by omega))) ?_
   refine ed (iv ((i + 1 : Nat) : Int)) rfl rfl (dv_assign rfl) ?_
   refine E_nil ?_
   refine loop_next (I := I5) (a_n - (i + 1)) (by rw [hm8]; omega) ?_
   rw [hI5]
   refine ⟨i + 1, o.set i x12, rfl, (all_c rfl (all_c rfl (all_c rfl (all_c rfl (all_c rfl (all_c rfl (all_c rfl all_n))))))), hS, (by rw [List.length_set]; exact ho_n), ?_, ?_⟩
   · omega
   · rw [ho]; exact set_step hx12
  ·
   refine ed no rfl rfl (dv_bin rfl rfl (bi_lss_f hc11)) ?_
   refine E_nil ?_
   refine th_norm ?_
   refine AWp_cond (t := false) rfl nofun (fun _ => ?_)
   refine AWp_exit (th_exit (th_exit (bl_exit (?_))))
   refine th_norm ?_
   refine AWp_seq ?_
   refine AWp_E rfl ?_
   refine ed (sv a1 a_n a_n) rfl rfl (dv_move rfl) ?_
   refine ed (sv a1 a_n a_n) rfl rfl (dv_assign rfl) ?_
   refine E_nil ?_
   refine th_norm ?_
   refine AWp_ret (?_)
   refine ret_of ?_
   refine readsRes_of (rs := [.tmp 2]) (vs := [sv a1 a_n a_n]) rfl (re_cons (re_tmp rfl) (re_nil)) rfl ?_
   refine ⟨a1, a_n, a_n, o, ?_, ho_n, rfl, hS.pick [0] rfl⟩
   · have hii : i = a.length := by omega
     rw [ho, hii]; simp
theorem toSpring_ok (x : Spr) (H : AH)  : ACalls Tryz.prog 92 [.agg #[iv x.A, iv x.B, fl x.Long, fl x.Stiff]] H
  (fun r H' => ∃ (v_ : Spr), x = v_ ∧ r = .agg #[iv v_.A, iv v_.B, fl v_.Long, fl v_.Stiff] ∧ SepL H [] H') := by
 refine ACalls_of Tryz.func92 rfl (Nat.le_of_ble_eq_true rfl) ?_
 obtain ⟨H0, hH0⟩ : ∃ H0, H0 = H := ⟨_, rfl⟩
 have hS : SepL H0 [] H := hH0 ▸ SepL.refl H
 subst hH0
 refine AWp_seq ?_
 refine AWp_E rfl ?_
 refine S_box (l := [iv x.A, iv x.B, fl x.Long, fl x.Stiff]) hS rfl rfl rfl rfl rfl fun b1 H hS => ?_
 refine S_box (l := [iv 0, iv 0, fl 0, fl 0]) hS rfl rfl rfl rfl rfl fun b2 H hS => ?_
 refine E_nil ?_
 refine th_norm ?_
 refine AWp_seq ?_
 refine AWp_E rfl ?_
 refine S_box (l := [iv 0, iv 0, fl 0, fl 0]) hS rfl rfl rfl rfl rfl fun b3 H hS => ?_
 refine E_nil ?_
 refine th_norm ?_
 refine AWp_seq ?_
 refine AWp_E rfl ?_
 refine ed (pt b1 0) rfl rfl (dv_fieldAddr rfl rfl) ?_
 refine ed (iv x.A) rfl rfl (dv_load rfl (ld_box (hS.box 0 rfl) rfl rfl rfl)) ?_
 refine ed (pt b3 0) rfl rfl (dv_fieldAddr rfl rfl) ?_
 refine S_store (i := 2) (yv := iv x.A) (l' := [iv x.A, iv 0, fl 0, fl 0]) hS rfl rfl rfl rfl rfl rfl rfl rfl rfl rfl rfl rfl fun H hS => ?_
 refine E_nil ?_
 refine th_norm ?_
 refine AWp_seq ?_
 refine AWp_E rfl ?_
 refine ed (pt b1 1) rfl rfl (dv_fieldAddr rfl rfl) ?_
 refine ed (iv x.B) rfl rfl (dv_load rfl (ld_box (hS.box 0 rfl) rfl rfl rfl)) ?_
 refine ed (pt b3 1) rfl rfl (dv_fieldAddr rfl rfl) ?_
 refine S_store (i := 2) (yv := iv x.B) (l' := [iv x.A, iv x.B, fl 0, fl 0]) hS rfl rfl rfl rfl rfl rfl rfl rfl rfl rfl rfl rfl fun H hS => ?_
 refine E_nil ?_
 refine th_norm ?_
 refine AWp_seq ?_
 refine AWp_E rfl ?_
 refine ed (pt b1 2) rfl rfl (dv_fieldAddr rfl rfl) ?_
 refine ed (fl x.Long) rfl rfl (dv_load rfl (ld_box (hS.box 0 rfl) rfl rfl rfl)) ?_
 refine ed (pt b3 2) rfl rfl (dv_fieldAddr rfl rfl) ?_
 refine S_store (i := 2) (yv := fl x.Long) (l' := [iv x.A, iv x.B, fl x.Long, fl 0]) hS rfl rfl rfl rfl rfl rfl rfl rfl rfl rfl rfl rfl fun H hS => ?_
 refine E_nil ?_
 refine th_norm ?_
 refine AWp_seq ?_
 refine AWp_E rfl ?_
 refine ed (pt b1 3) rfl rfl (dv_fieldAddr rfl rfl) ?_
 refine ed (fl x.Stiff) rfl rfl (dv_load rfl (ld_box (hS.box 0 rfl) rfl rfl rfl)) ?_
 refine ed (pt b3 3) rfl rfl (dv_fieldAddr rfl rfl) ?_
 refine S_store (i := 2) (yv := fl x.Stiff) (l' := [iv x.A, iv x.B, fl x.Long, fl x.Stiff]) hS rfl rfl rfl rfl rfl rfl rfl rfl rfl rfl rfl rfl fun H hS => ?_
 refine E_nil ?_
 refine th_norm ?_
 refine AWp_seq ?_
 refine AWp_E rfl ?_
 refine ed (.agg #[iv x.A, iv x.B, fl x.Long, fl x.Stiff]) rfl rfl (dv_load rfl (ld_boxA (n := 4) (hS.box 2 rfl) rfl rfl (Nat.le_of_ble_eq_true rfl) rfl)) ?_
 refine S_store (i := 1) (yv := .agg #[iv x.A, iv x.B, fl x.Long, fl x.Stiff]) (l' := [iv x.A, iv x.B, fl x.Long, fl x.Stiff]) hS rfl rfl rfl rfl rfl rfl rfl rfl rfl rfl rfl rfl fun H hS => ?_
 refine E_nil ?_
 refine th_norm ?_
 refine AWp_ret (?_)
 refine ret_of ?_
 refine readsRes_of (rs := [.cell 2 116]) (vs := [.agg #[iv x.A, iv x.B, fl x.Long, fl x.Stiff]]) rfl (re_cons (re_cell (p := pt b2 0) rfl (ld_boxA (n := 4) (hS.box 1 rfl) rfl rfl (Nat.le_of_ble_eq_true rfl) rfl)) (re_nil)) rfl ?_
 refine ⟨x, ?_, rfl, .base hS.keep⟩
 · first | rfl | omega | (simp [*]; done)
theorem toSpringS_ok (a_a : Option Addr) (a_n a_c : Nat) (a : List (Spr)) (H : AH) (ha : VS H encS a_a a_n a) : ACalls Tryz.prog 52 [sv a_a a_n a_c] H
  (fun r H' => ∃ (x_a : Option Addr), ∃ (x_n : Nat), ∃ (x_c : Nat), ∃ (x_ : List (Spr)), x_ = a ∧ x_.length = x_n ∧ r = sv x_a x_n x_c ∧ SepL H [sl encS 116 4 x_a x_c x_] H') := by
 refine ACalls_of Tryz.func52 rfl (Nat.le_of_ble_eq_true rfl) ?_
 obtain ⟨H0, hH0⟩ : ∃ H0, H0 = H := ⟨_, rfl⟩
 have hS : SepL H0 [] H := hH0 ▸ SepL.refl H
 subst hH0
 obtain ⟨ha_s, ha_n, ha_b⟩ := id ha
 refine AWp_seq ?_
 refine AWp_E rfl ?_
 refine ed (sv none 0 0) rfl rfl (dv_assign rfl) ?_
 refine E_nil ?_
 refine th_norm ?_
 refine AWp_seq ?_
 refine AWp_E rfl ?_
 refine ed (sv a_a a_n a_c) rfl rfl (dv_move rfl) ?_
 refine ed (iv ((a_n : Nat) : Int)) rfl rfl (dv_len rfl rfl rfl rfl rfl) ?_
 refine S_make (sz := 4) (enc := encS) (z := (⟨0, 0, 0, 0⟩ : Spr)) hS rfl rfl rfl (dn_make (nb := 24) (n := a_n) (zs := [iv 0, iv 0, fl 0, fl 0]) rfl rfl rfl rfl rfl rfl rfl (by omega) (by omega)) rfl rfl (by unfold maxLen; omega) fun a1 x2 H hx3 hn4 hS => ?_
 refine ed (sv a1 a_n a_n) rfl rfl (dv_assign rfl) ?_
 refine E_nil ?_
 refine th_norm ?_
 refine AWp_seq ?_
 refine AWp_seq ?_
 refine AWp_E rfl ?_
 refine ed (iv 0) rfl rfl (dv_assign rfl) ?_
 refine E_nil ?_
 refine th_norm ?_
 refine AWp_block ?_
 obtain ⟨I5, hI5⟩ : ∃ I : Nat → Env → AH → Prop, ∀ m_ e_ Hl, I m_ e_ Hl = (∃ (i : Nat) (o : List (Spr)), m_ = a_n - i ∧ AllE [(0, sv a_a a_n a_c), (2, sv none 0 0), (3, sv a1 a_n a_n), (4, iv ((i : Nat) : Int)), (5, sv a_a a_n a_c), (6, iv ((a_n : Nat) : Int)), (7, sv a1 a_n a_n)] e_ ∧ SepL H0 [sl encS 116 4 a1 a_n o] Hl ∧ o.length = a_n ∧ (i ≤ a_n) ∧ (o = a.take i ++ List.replicate (a.length - i) (⟨0, 0, 0, 0⟩ : Spr))) := ⟨_, fun _ _ _ => rfl⟩
 refine AWp_loop I5 (a_n - (0)) ?_ ?_
 ·
  rw [hI5]
  refine ⟨0, x2, rfl, (all_c rfl (all_c rfl (all_c rfl (all_c rfl (all_c rfl (all_c rfl (all_c rfl all_n))))))), hS, hn4, ?_, ?_⟩
  · omega
  · simp [hx3, ha_n]
 ·
  intro m6 _ H hl7
  rw [hI5] at hl7
  obtain ⟨i, o, hm8, he9, hS, ho_n, hi, ho⟩ := hl7
  obtain ⟨e10, rfl⟩ := he9.ex
  refine AWp_seq ?_
  refine AWp_seq ?_
  refine AWp_E rfl ?_
  refine ed (iv ((i : Nat) : Int)) rfl rfl (dv_move rfl) ?_
  refine ed (sv a_a a_n a_c) rfl rfl (dv_move rfl) ?_
  refine ed (iv ((a_n : Nat) : Int)) rfl rfl (dv_len rfl rfl rfl rfl rfl) ?_
  rcases Decidable.em (((i : Nat) : Int) < ((a_n : Nat) : Int)) with hc11 | hc11
  ·
   refine ed yes rfl rfl (dv_bin rfl rfl (bi_lss_t hc11)) ?_
   refine E_nil ?_
   refine th_norm ?_
   refine AWp_cond (t := true) rfl (fun _ => ?_) nofun
   refine AWp_skip ?_
   refine th_norm ?_
   refine AWp_seq ?_
   refine AWp_block ?_
   refine AWp_E rfl ?_
   refine ed (sv a1 a_n a_n) rfl rfl (dv_move rfl) ?_
   refine ed (iv ((i : Nat) : Int)) rfl rfl (dv_move rfl) ?_
   refine ed (sv a_a a_n a_c) rfl rfl (dv_move rfl) ?_
   refine ed (iv ((i : Nat) : Int)) rfl rfl (dv_move rfl) ?_
   obtain ⟨x12, hx12⟩ := get_el (xs := a) (i := i) (by omega)
   refine ed (sp a_a (i * 4)) rfl rfl (dv_indexAddr (a := sv a_a a_n a_c) (b := iv ((i : Nat) : Int)) rfl rfl (ix_sls (n := a_n) (i := i) (ha_s.keep hS.keep) hx12 rfl rfl rfl (by omega))) ?_
   refine ed (.agg #[iv x12.A, iv x12.B, fl x12.Long, fl x12.Stiff]) rfl rfl (dv_load rfl (ld_slsA (sz := 4) (m := 4) (ys := [iv x12.A, iv x12.B, fl x12.Long, fl x12.Stiff]) (off := 0) (ha_s.keep hS.keep) hx12 (fun _ => rfl) rfl rfl (Nat.le_of_ble_eq_true rfl) rfl)) ?_
   refine E_call (vs := [.agg #[iv x12.A, iv x12.B, fl x12.Long, fl x12.Stiff]]) rfl rfl rfl rfl rfl rfl rfl (toSpring_ok x12 _) ?_
   rintro _ H ⟨v13, rfl, rfl, hQ⟩
   have hS := hS.up hQ.keep
   obtain ⟨x14, hx14⟩ := get_el (xs := o) (i := i) (by omega)
   refine ed (sp a1 (i * 4)) rfl rfl (dv_indexAddr (a := sv a1 a_n a_n) (b := iv ((i : Nat) : Int)) rfl rfl (ix_sls (n := a_n) (i := i) (hS.sls 0 rfl) hx14 rfl rfl rfl (by omega))) ?_
   refine S_storeS (k := 0) (i := i) (z' := x12) (off := 0) (yv := .agg #[iv x12.A, iv x12.B, fl x12.Long, fl x12.Stiff]) hS rfl rfl rfl rfl (fun _ => rfl) rfl rfl rfl hx14 rfl rfl rfl rfl fun H hS => ?_
   have hx15 := set_get (z := x12) hx14
   refine E_nil ?_
   refine bl_norm ?_
   refine th_norm ?_
   refine AWp_E rfl ?_
   refine ed (iv ((i : Nat) : Int)) rfl rfl (dv_move rfl) ?_
   refine ed (iv ((i + 1 : Nat) : Int)) rfl rfl (dv_bin rfl rfl (bi_add (by omega))) ?_
   refine ed (iv ((i + 1 : Nat) : Int)) rfl rfl (dv_assign rfl) ?_
   refine E_nil ?_
   refine loop_next (I := I5) (a_n - (i + 1)) (by rw [hm8]; omega) ?_
   rw [hI5]
   refine ⟨i + 1, o.set i x12, rfl, (all_c rfl (all_c rfl (all_c rfl (all_c rfl (all_c rfl (all_c rfl (all_c rfl all_n))))))), hS, (by rw [List.length_set]; exact ho_n), ?_, ?_⟩
   · omega
   · rw [ho]; exact set_step hx12
  ·
   refine ed no rfl rfl (dv_bin rfl rfl (bi_lss_f hc11)) ?_
   refine E_nil ?_
   refine th_norm ?_
   refine AWp_cond (t := false) rfl nofun (fun _ => ?_)
   refine AWp_exit (th_exit (th_exit (bl_exit (?_))))
   refine th_norm ?_
   refine AWp_seq ?_
   refine AWp_E rfl ?_
   refine ed (sv a1 a_n a_n) rfl rfl (dv_move rfl) ?_
   refine ed (sv a1 a_n a_n) rfl rfl (dv_assign rfl) ?_
   refine E_nil ?_
   refine th_norm ?_
   refine AWp_ret (?_)
   refine ret_of ?_
   refine readsRes_of (rs := [.tmp 2]) (vs := [sv a1 a_n a_n]) rfl (re_cons (re_tmp rfl) (re_nil)) rfl ?_
   refine ⟨a1, a_n, a_n, o, ?_, ho_n, rfl, hS.pick [0] rfl⟩
   · have hii : i = a.length := by omega
     rw [ho, hii]; simp
theorem toFloat32S_ok (a_a : Option Addr) (a_n a_c : Nat) (a : List (Nat)) (H : AH) (ha : VS H encF a_a a_n a) : ACalls Tryz.prog 53 [sv a_a a_n a_c] H
  (fun r H' => ∃ (x_a : Option Addr), ∃ (x_n : Nat), ∃ (x_c : Nat), ∃ (x_ : List (Nat)), x_ = a ∧ x_.length = x_n ∧ r = sv x_a x_n x_c ∧ SepL H [sl encF 27 1 x_a x_c x_] H') := by
 refine ACalls_of Tryz.func53 rfl (Nat.le_of_ble_eq_true rfl) ?_
 obtain ⟨H0, hH0⟩ : ∃ H0, H0 = H := ⟨_, rfl⟩
 have hS : SepL H0 [] H := hH0 ▸ SepL.refl H
 subst hH0
 obtain ⟨ha_s, ha_n, ha_b⟩ := id ha
 refine AWp_seq ?_
 refine AWp_E rfl ?_
 refine ed (sv none 0 0) rfl rfl (dv_assign rfl) ?_
 refine E_nil ?_
 refine th_norm ?_
 refine AWp_seq ?_
 refine AWp_E rfl ?_
 refine ed (sv a_a a_n a_c) rfl rfl (dv_move rfl) ?_
 refine ed (iv ((a_n : Nat) : Int)) rfl rfl (dv_len rfl rfl rfl rfl rfl) ?_
 refine S_make (sz := 1) (enc := encF) (z := (0 : Nat)) hS rfl rfl rfl (dn_make (nb := 4) (n := a_n) (zs := [fl 0]) rfl rfl rfl rfl rfl rfl rfl (by omega) (by omega)) rfl rfl (by unfold maxLen; omega) fun a1 x2 H hx3 hn4 hS => ?_
 refine ed (sv a1 a_n a_n) rfl rfl (dv_assign rfl) ?_
 refine E_nil ?_
 refine th_norm ?_
 refine AWp_seq ?_
 refine AWp_seq ?_
 refine AWp_E rfl ?_
 refine ed (iv 0) rfl rfl (dv_assign rfl) ?_
 refine E_nil ?_
 refine th_norm ?_
 refine AWp_block ?_
 obtain ⟨I5, hI5⟩ : ∃ I : Nat → Env → AH → Prop, ∀ m_ e_ Hl, I m_ e_ Hl = (∃ (i : Nat) (o : List (Nat)), m_ = a_n - i ∧ AllE [(0, sv a_a a_n a_c), (2, sv none 0 0), (3, sv a1 a_n a_n), (4, iv ((i : Nat) : Int)), (5, sv a_a a_n a_c), (6, iv ((a_n : Nat) : Int)), (7, sv a1 a_n a_n)] e_ ∧ SepL H0 [sl encF 27 1 a1 a_n o] Hl ∧ o.length = a_n ∧ (i ≤ a_n) ∧ (o = a.take i ++ List.replicate (a.length - i) (0 : Nat))) := ⟨_, fun _ _ _ => rfl⟩
 refine AWp_loop I5 (a_n - (0)) ?_ ?_
 ·
  rw [hI5]
  refine ⟨0, x2, rfl, (all_c rfl (all_c rfl (all_c rfl (all_c rfl (all_c rfl (all_c rfl (all_c rfl all_n))))))), hS, hn4, ?_, ?_⟩
  · omega
  · simp [hx3, ha_n]
 ·
  intro m6 _ H hl7
  rw [hI5] at hl7
  obtain ⟨i, o, hm8, he9, hS, ho_n, hi, ho⟩ := hl7
  obtain ⟨e10, rfl⟩ := he9.ex
  refine AWp_seq ?_
  refine AWp_seq ?_
  refine AWp_E rfl ?_
  refine ed (iv ((i : Nat) : Int)) rfl rfl (dv_move rfl) ?_
  refine ed (sv a_a a_n a_c) rfl rfl (dv_move rfl) ?_
  refine ed (iv ((a_n : Nat) : Int)) rfl rfl (dv_len rfl rfl rfl rfl rfl) ?_
  rcases Decidable.em (((i : Nat) : Int) < ((a_n : Nat) : Int)) with hc11 | hc11
  ·
   refine ed yes rfl rfl (dv_bin rfl rfl (bi_lss_t hc11)) ?_
   refine E_nil ?_
   refine th_norm ?_
   refine AWp_cond (t := true) rfl (fun _ => ?_) nofun
   refine AWp_skip ?_
   refine th_norm ?_
   refine AWp_seq ?_
   refine AWp_block ?_
   refine AWp_E rfl ?_
   refine ed (sv a1 a_n a_n) rfl rfl (dv_move rfl) ?_
   refine ed (iv ((i : Nat) : Int)) rfl rfl (dv_move rfl) ?_
   refine ed (sv a_a a_n a_c) rfl rfl (dv_move rfl) ?_
   refine ed (iv ((i : Nat) : Int)) rfl rfl (dv_move rfl) ?_
   obtain ⟨x12, hx12⟩ := get_el (xs := a) (i := i) (by omega)
   refine ed (sp a_a (i * 1)) rfl rfl (dv_indexAddr (a := sv a_a a_n a_c) (b := iv ((i : Nat) : Int)) rfl rfl (ix_sls (n := a_n) (i := i) (ha_s.keep hS.keep) hx12 rfl rfl rfl (by omega))) ?_
   refine ed (fl x12) rfl rfl (dv_load rfl (ld_sls (sz := 1) (off := 0) (ha_s.keep hS.keep) hx12 (fun _ => rfl) rfl rfl rfl)) ?_
   obtain ⟨x13, hx13⟩ := get_el (xs := o) (i := i) (by omega)
   refine ed (sp a1 (i * 1)) rfl rfl (dv_indexAddr (a := sv a1 a_n a_n) (b := iv ((i : Nat) : Int)) rfl rfl (ix_sls (n := a_n) (i := i) (hS.sls 0 rfl) hx13 rfl rfl rfl (by omega))) ?_
   refine S_storeS (k := 0) (i := i) (z' := x12) (off := 0) (yv := fl x12) hS rfl rfl rfl rfl (fun _ => rfl) rfl rfl rfl hx13 rfl rfl rfl rfl fun H hS => ?_
   have hx14 := set_get (z := x12) hx13
   refine E_nil ?_
   refine bl_norm ?_
   refine th_norm ?_
   refine AWp_E rfl ?_
   refine ed (iv ((i : Nat) : Int)) rfl rfl (dv_move rfl) ?_
   refine ed (iv ((i + 1 : Nat) : Int)) rfl rfl (dv_bin rfl rfl (bi_add (by omega))) ?_
   refine ed (iv ((i + 1 : Nat) : Int)) rfl rfl (dv_assign rfl) ?_
   refine E_nil ?_
   refine loop_next (I := I5) (a_n - (i + 1)) (by rw [hm8]; omega) ?_
   rw [hI5]
   refine ⟨i + 1, o.set i x12, rfl, (all_c rfl (all_c rfl (all_c rfl (all_c rfl (all_c rfl (all_c rfl (all_c rfl all_n))))))), hS, (by rw [List.length_set]; exact ho_n), ?_, ?_⟩
   · omega
   · rw [ho]; exact set_step hx12
  ·
   refine ed no rfl rfl (dv_bin rfl rfl (bi_lss_f hc11)) ?_
   refine E_nil ?_
   refine th_norm ?_
   refine AWp_cond (t := false) rfl nofun (fun _ => ?_)
   refine AWp_exit (th_exit (th_exit (bl_exit (?_))))
   refine th_norm ?_
   refine AWp_seq ?_
   refine AWp_E rfl ?_
   refine ed (sv a1 a_n a_n) rfl rfl (dv_move rfl) ?_
   refine ed (sv a1 a_n a_n) rfl rfl (dv_assign rfl) ?_
   refine E_nil ?_
   refine th_norm ?_
   refine AWp_ret (?_)
   refine ret_of ?_
   refine readsRes_of (rs := [.tmp 2]) (vs := [sv a1 a_n a_n]) rfl (re_cons (re_tmp rfl) (re_nil)) rfl ?_
   refine ⟨a1, a_n, a_n, o, ?_, ho_n, rfl, hS.pick [0] rfl⟩
   · have hii : i = a.length := by omega
     rw [ho, hii]; simp
theorem toInt64SS_ok (a_a : Option Addr) (a_n a_c : Nat) (a : List Row) (H : AH) (ha : VR H a_a a_n a) : ACalls Tryz.prog 91 [sv a_a a_n a_c] H
  (fun r H' => ∃ (x_a : Option Addr), ∃ (x_n : Nat), ∃ (x_c : Nat), ∃ (x_ : List Row), rxs x_ = rxs a ∧ x_.length = x_n ∧ (∀ q ∈ x_, q.xs.length ≤ 1048576) ∧ r = sv x_a x_n x_c ∧ SepL H [sl encR 53 1 x_a x_c x_, rowsE 2 x_] H') := by
 refine ACalls_of Tryz.func91 rfl (Nat.le_of_ble_eq_true rfl) ?_
 obtain ⟨H0, hH0⟩ : ∃ H0, H0 = H := ⟨_, rfl⟩
 have hS : SepL H0 [] H := hH0 ▸ SepL.refl H
 subst hH0
 obtain ⟨ha_s, ha_n, ha_b⟩ := id ha
 refine AWp_seq ?_
 refine AWp_E rfl ?_
 refine ed (sv none 0 0) rfl rfl (dv_assign rfl) ?_
 refine E_nil ?_
 refine th_norm ?_
 refine AWp_seq ?_
 refine AWp_E rfl ?_
 refine ed (sv a_a a_n a_c) rfl rfl (dv_move rfl) ?_
 refine ed (iv ((a_n : Nat) : Int)) rfl rfl (dv_len rfl rfl rfl rfl rfl) ?_
 refine S_make (sz := 1) (enc := encR) (z := (⟨none, 0, []⟩ : Row)) hS rfl rfl rfl (dn_make (nb := 24) (n := a_n) (zs := [sv none 0 0]) rfl rfl rfl rfl rfl rfl rfl (by omega) (by omega)) rfl rfl (by unfold maxLen; omega) fun a1 x2 H hx3 hn4 hS => ?_
 refine ed (sv a1 a_n a_n) rfl rfl (dv_assign rfl) ?_
 refine E_nil ?_
 refine th_norm ?_
 refine AWp_seq ?_
 refine AWp_seq ?_
 refine AWp_E rfl ?_
 refine ed (iv 0) rfl rfl (dv_assign rfl) ?_
 refine E_nil ?_
 refine th_norm ?_
 refine AWp_block ?_
 have hS := hS.zero (rowE1 2)
 obtain ⟨I5, hI5⟩ : ∃ I : Nat → Env → AH → Prop, ∀ m_ e_ Hl, I m_ e_ Hl = (∃ (i : Nat) (o : List (Row)) (qs : List Row), m_ = a_n - i ∧ AllE [(0, sv a_a a_n a_c), (2, sv none 0 0), (3, sv a1 a_n a_n), (4, iv ((i : Nat) : Int)), (5, sv a_a a_n a_c), (6, iv ((a_n : Nat) : Int)), (7, sv a1 a_n a_n)] e_ ∧ SepL H0 [sl encR 53 1 a1 a_n o, rowsE 2 qs] Hl ∧ o.length = a_n ∧ (i ≤ a_n) ∧ (o = qs ++ List.replicate (a.length - i) ⟨none, 0, []⟩) ∧ (qs.length = i) ∧ (rxs qs = (rxs a).take i) ∧ (∀ q ∈ qs, q.xs.length ≤ 1048576)) := ⟨_, fun _ _ _ => rfl⟩
 refine AWp_loop I5 (a_n - (0)) ?_ ?_
 ·
  rw [hI5]
  refine ⟨0, x2, ([] : List Row), rfl, (all_c rfl (all_c rfl (all_c rfl (all_c rfl (all_c rfl (all_c rfl (all_c rfl all_n))))))), hS, hn4, ?_, ?_, ?_, ?_, ?_⟩
  · omega
  · simp [hx3, ha_n]
  · rfl
  · rfl
  · simp
 ·
  intro m6 _ H hl7
  rw [hI5] at hl7
  obtain ⟨i, o, qs, hm8, he9, hS, ho_n, hi, ho, hq, hqm, hql⟩ := hl7
  obtain ⟨e10, rfl⟩ := he9.ex
  refine AWp_seq ?_
  refine AWp_seq ?_
  refine AWp_E rfl ?_
  refine ed (iv ((i : Nat) : Int)) rfl rfl (dv_move rfl) ?_
  refine ed (sv a_a a_n a_c) rfl rfl (dv_move rfl) ?_
  refine ed (iv ((a_n : Nat) : Int)) rfl rfl (dv_len rfl rfl rfl rfl rfl) ?_
  rcases Decidable.em (((i : Nat) : Int) < ((a_n : Nat) : Int)) with hc11 | hc11
  ·
   refine ed yes rfl rfl (dv_bin rfl rfl (bi_lss_t hc11)) ?_
   refine E_nil ?_
   refine th_norm ?_
   refine AWp_cond (t := true) rfl (fun _ => ?_) nofun
   refine AWp_skip ?_
   refine th_norm ?_
   refine AWp_seq ?_
   refine AWp_block ?_
   refine AWp_E rfl ?_
   refine ed (sv a1 a_n a_n) rfl rfl (dv_move rfl) ?_
   refine ed (iv ((i : Nat) : Int)) rfl rfl (dv_move rfl) ?_
   refine ed (sv a_a a_n a_c) rfl rfl (dv_move rfl) ?_
   refine ed (iv ((i : Nat) : Int)) rfl rfl (dv_move rfl) ?_
   obtain ⟨x12, hx12⟩ := get_el (xs := a) (i := i) (by omega)
   have hv13 := ha_s.el hx12
   have hv13l := hv13.2
   refine ed (sp a_a (i * 1)) rfl rfl (dv_indexAddr (a := sv a_a a_n a_c) (b := iv ((i : Nat) : Int)) rfl rfl (ix_sls (n := a_n) (i := i) (ha_s.1.keep hS.keep) hx12 rfl rfl rfl (by omega))) ?_
   refine ed (sv x12.a x12.xs.length x12.c) rfl rfl (dv_load rfl (ld_sls (sz := 1) (off := 0) (ha_s.1.keep hS.keep) hx12 (fun _ => rfl) rfl rfl rfl)) ?_
   refine E_call (vs := [sv x12.a x12.xs.length x12.c]) rfl rfl rfl rfl rfl rfl rfl (toInt64S_ok x12.a x12.xs.length x12.c x12.xs _ ⟨(hv13.1.keep hS.keep), rfl, hv13.2⟩) ?_
   rintro _ H ⟨x14, x15, x16, x17, h18, rfl, rfl, hQ⟩
   have hlh18 := congrArg List.length h18
   have hS := hS.push hQ
   obtain ⟨x19, hx19⟩ := get_el (xs := o) (i := i) (by omega)
   refine ed (sp a1 (i * 1)) rfl rfl (dv_indexAddr (a := sv a1 a_n a_n) (b := iv ((i : Nat) : Int)) rfl rfl (ix_sls (n := a_n) (i := i) (hS.sls 0 rfl) hx19 rfl rfl rfl (by omega))) ?_
   refine S_storeS (k := 0) (i := i) (z' := (⟨x14, x16, x17⟩ : Row)) (off := 0) (yv := sv x14 x17.length x16) hS rfl rfl rfl rfl (fun _ => rfl) rfl rfl rfl hx19 rfl rfl rfl rfl fun H hS => ?_
   have hx20 := set_get (z := (⟨x14, x16, x17⟩ : Row)) hx19
   refine E_nil ?_
   refine bl_norm ?_
   refine th_norm ?_
   refine AWp_E rfl ?_
   refine ed (iv ((i : Nat) : Int)) rfl rfl (dv_move rfl) ?_
   refine ed (iv ((i + 1 : Nat) : Int)) rfl rfl (dv_bin rfl rfl (bi_add (by omega))) ?_
   refine ed (iv ((i + 1 : Nat) : Int)) rfl rfl (dv_assign rfl) ?_
   refine E_nil ?_
   have hS := hS.join (f := rowE1 2) (q := (⟨x14, x16, x17⟩ : Row)) 1 2 rfl rfl rfl
   refine loop_next (I := I5) (a_n - (i + 1)) (by rw [hm8]; omega) ?_
   rw [hI5]
   refine ⟨i + 1, o.set i (⟨x14, x16, x17⟩ : Row), (qs ++ [(⟨x14, x16, x17⟩ : Row)]), rfl, (all_c rfl (all_c rfl (all_c rfl (all_c rfl (all_c rfl (all_c rfl (all_c rfl all_n))))))), hS, (by rw [List.length_set]; exact ho_n), ?_, ?_, ?_, ?_, ?_⟩
   · omega
   · rw [ho]; exact put_step hq (by omega)
   · simp [hq]
   · rw [rxs, List.map_append, ← rxs, hqm, take_step (map_get (f := Row.xs) hx12)]; simp [h18]
   · intro q hq
     rcases List.mem_append.1 hq with hq | hq
     · exact hql q hq
     · rw [List.mem_singleton.1 hq]; show x17.length ≤ _; rw [h18]; exact hv13.2
  ·
   refine ed no rfl rfl (dv_bin rfl rfl (bi_lss_f hc11)) ?_
   refine E_nil ?_
   refine th_norm ?_
   refine AWp_cond (t := false) rfl nofun (fun _ => ?_)
   refine AWp_exit (th_exit (th_exit (bl_exit (?_))))
   refine th_norm ?_
   refine AWp_seq ?_
   refine AWp_E rfl ?_
   refine ed (sv a1 a_n a_n) rfl rfl (dv_move rfl) ?_
   refine ed (sv a1 a_n a_n) rfl rfl (dv_assign rfl) ?_
   refine E_nil ?_
   refine th_norm ?_
   refine AWp_ret (?_)
   refine ret_of ?_
   refine readsRes_of (rs := [.tmp 2]) (vs := [sv a1 a_n a_n]) rfl (re_cons (re_tmp rfl) (re_nil)) rfl ?_
   have hii : i = a.length := by omega
   have hoo : o = qs := by rw [ho, hii]; simp
   subst hoo
   refine ⟨a1, a_n, a_n, o, ?_, (by omega), ?_, rfl, hS.pick [0, 1] rfl⟩
   · rw [hqm, hii]; exact List.take_of_length_le (by rw [rxs, List.length_map]; omega)
   · exact hql
theorem toMesh_ok (m : LM) (H : AH) (hm : m.ok H) : ACalls Tryz.prog 51 [mva m] H
  (fun r H' => ∃ (b_ : LM), b_.d = m.d ∧ (b_.ps.length = b_.pn ∧ b_.ts.length = b_.tn) ∧ (∀ q ∈ b_.ts, q.xs.length ≤ 1048576) ∧ r = mva b_ ∧ SepL H [sl encV 41 3 b_.pa b_.pc b_.ps, sl encR 53 1 b_.ta b_.tc b_.ts, rowsE 2 b_.ts] H') := by
 refine ACalls_of Tryz.func51 rfl (Nat.le_of_ble_eq_true rfl) ?_
 obtain ⟨H0, hH0⟩ : ∃ H0, H0 = H := ⟨_, rfl⟩
 have hS : SepL H0 [] H := hH0 ▸ SepL.refl H
 subst hH0
 obtain ⟨⟨hm_ps, hm_pn, hm_pb⟩, hm_ts, hm_tn, hm_tb⟩ := id hm
 refine AWp_seq ?_
 refine AWp_E rfl ?_
 refine S_box (l := [sv m.pa m.pn m.pc, sv m.ta m.tn m.tc]) hS rfl rfl rfl rfl rfl fun b1 H hS => ?_
 refine S_box (l := [sv none 0 0, sv none 0 0]) hS rfl rfl rfl rfl rfl fun b2 H hS => ?_
 refine E_nil ?_
 refine th_norm ?_
 refine AWp_seq ?_
 refine AWp_E rfl ?_
 refine S_box (l := [sv none 0 0, sv none 0 0]) hS rfl rfl rfl rfl rfl fun b3 H hS => ?_
 refine E_nil ?_
 refine th_norm ?_
 refine AWp_seq ?_
 refine AWp_E rfl ?_
 refine ed (pt b1 0) rfl rfl (dv_fieldAddr rfl rfl) ?_
 refine ed (sv m.pa m.pn m.pc) rfl rfl (dv_load rfl (ld_box (hS.box 0 rfl) rfl rfl rfl)) ?_
 refine E_call (vs := [sv m.pa m.pn m.pc]) rfl rfl rfl rfl rfl rfl rfl (toVectorS_ok m.pa m.pn m.pc m.ps _ (hm.1.keep hS.keep)) ?_
 rintro _ H ⟨x4, x5, x6, x7, h8, rfl, rfl, hQ⟩
 have hlh8 := congrArg List.length h8
 have hS := hS.push hQ
 refine ed (pt b3 0) rfl rfl (dv_fieldAddr rfl rfl) ?_
 refine S_store (i := 2) (yv := sv x4 x7.length x6) (l' := [sv x4 x7.length x6, sv none 0 0]) hS rfl rfl rfl rfl rfl rfl rfl rfl rfl rfl rfl rfl fun H hS => ?_
 refine E_nil ?_
 refine th_norm ?_
 refine AWp_seq ?_
 refine AWp_E rfl ?_
 refine ed (pt b1 1) rfl rfl (dv_fieldAddr rfl rfl) ?_
 refine ed (sv m.ta m.tn m.tc) rfl rfl (dv_load rfl (ld_box (hS.box 0 rfl) rfl rfl rfl)) ?_
 refine E_call (vs := [sv m.ta m.tn m.tc]) rfl rfl rfl rfl rfl rfl rfl (toInt64SS_ok m.ta m.tn m.tc m.ts _ (hm.2.keep hS.keep)) ?_
 rintro _ H ⟨x9, x10, x11, x12, h13, rfl, h14, rfl, hQ⟩
 have hS := hS.push hQ
 refine ed (pt b3 1) rfl rfl (dv_fieldAddr rfl rfl) ?_
 refine S_store (i := 2) (yv := sv x9 x12.length x11) (l' := [sv x4 x7.length x6, sv x9 x12.length x11]) hS rfl rfl rfl rfl rfl rfl rfl rfl rfl rfl rfl rfl fun H hS => ?_
 refine E_nil ?_
 refine th_norm ?_
 refine AWp_seq ?_
 refine AWp_E rfl ?_
 refine ed (.agg #[sv x4 x7.length x6, sv x9 x12.length x11]) rfl rfl (dv_load rfl (ld_boxA (n := 2) (hS.box 2 rfl) rfl rfl (Nat.le_of_ble_eq_true rfl) rfl)) ?_
 refine S_store (i := 1) (yv := .agg #[sv x4 x7.length x6, sv x9 x12.length x11]) (l' := [sv x4 x7.length x6, sv x9 x12.length x11]) hS rfl rfl rfl rfl rfl rfl rfl rfl rfl rfl rfl rfl fun H hS => ?_
 refine E_nil ?_
 refine th_norm ?_
 refine AWp_ret (?_)
 refine ret_of ?_
 refine readsRes_of (rs := [.cell 2 39]) (vs := [.agg #[sv x4 x7.length x6, sv x9 x12.length x11]]) rfl (re_cons (re_cell (p := pt b2 0) rfl (ld_boxA (n := 2) (hS.box 1 rfl) rfl rfl (Nat.le_of_ble_eq_true rfl) rfl)) (re_nil)) rfl ?_
 refine ⟨⟨x4, x6, x7.length, x7, x9, x11, x12.length, x12⟩, ?_, ?_, ?_, rfl, hS.pick [3, 4, 5] rfl⟩
 · simp [LM.d, LB.d, *]
 · simp_all
 · assumption
theorem toBody_ok (b : LB) (H : AH) (hb : b.ok H) : ACalls Tryz.prog 14 [bva b] H
  (fun r H' => ∃ (b_ : LB), b_.d = b.d ∧ (b_.m.ps.length = b_.m.pn ∧ b_.m.ts.length = b_.m.tn) ∧ (∀ q ∈ b_.m.ts, q.xs.length ≤ 1048576) ∧ (b_.ss.length = b_.sn ∧ b_.ws.length = b_.wn) ∧ r = bva b_ ∧ SepL H [sl encV 41 3 b_.m.pa b_.m.pc b_.m.ps, sl encR 53 1 b_.m.ta b_.m.tc b_.m.ts, rowsE 2 b_.m.ts, sl encS 116 4 b_.sa b_.sc b_.ss, sl encF 27 1 b_.wa b_.wc b_.ws] H') := by
 refine ACalls_of Tryz.func14 rfl (Nat.le_of_ble_eq_true rfl) ?_
 obtain ⟨H0, hH0⟩ : ∃ H0, H0 = H := ⟨_, rfl⟩
 have hS : SepL H0 [] H := hH0 ▸ SepL.refl H
 subst hH0
 obtain ⟨⟨hb_1_ps, hb_1_pn, hb_1_pb⟩, hb_1_ts, hb_1_tn, hb_1_tb⟩ := id hb.1
 obtain ⟨⟨hb_ss, hb_sn, hb_sb⟩, hb_ws, hb_wn, hb_wb⟩ := hb.2
 refine AWp_seq ?_
 refine AWp_E rfl ?_
 refine S_box (l := [sv b.m.pa b.m.pn b.m.pc, sv b.m.ta b.m.tn b.m.tc, sv b.sa b.sn b.sc, fl b.film, fl b.bend, sv b.wa b.wn b.wc, fl b.fall.x, fl b.fall.y, fl b.fall.z]) hS rfl rfl rfl rfl rfl fun b1 H hS => ?_
 refine S_box (l := [sv none 0 0, sv none 0 0, sv none 0 0, fl 0, fl 0, sv none 0 0, fl 0, fl 0, fl 0]) hS rfl rfl rfl rfl rfl fun b2 H hS => ?_
 refine E_nil ?_
 refine th_norm ?_
 refine AWp_seq ?_
 refine AWp_E rfl ?_
 refine S_box (l := [sv none 0 0, sv none 0 0, sv none 0 0, fl 0, fl 0, sv none 0 0, fl 0, fl 0, fl 0]) hS rfl rfl rfl rfl rfl fun b3 H hS => ?_
 refine E_nil ?_
 refine th_norm ?_
 refine AWp_seq ?_
 refine AWp_E rfl ?_
 refine ed (pt b1 0) rfl rfl (dv_fieldAddr rfl rfl) ?_
 refine ed (mva b.m) rfl rfl (dv_load rfl (ld_boxA (n := 2) (hS.box 0 rfl) rfl rfl (Nat.le_of_ble_eq_true rfl) rfl)) ?_
 refine E_call (vs := [mva b.m]) rfl rfl rfl rfl rfl rfl rfl (toMesh_ok b.m _ (hb.1.keep hS.keep)) ?_
 rintro _ H ⟨b4, h5, h6, h7, rfl, hQ⟩
 have hdlh5 : b4.ps.length = b.m.ps.length := congrArg (fun d : Msh => d.ps.length) h5
 have hdth5 : (rxs b4.ts).length = (rxs b.m.ts).length := congrArg (fun d : Msh => d.ts.length) h5
 simp only [rxs, List.length_map] at hdth5
 have hS := hS.push hQ
 refine ed (pt b3 0) rfl rfl (dv_fieldAddr rfl rfl) ?_
 refine S_store (i := 2) (yv := mva b4) (l' := [sv b4.pa b4.pn b4.pc, sv b4.ta b4.tn b4.tc, sv none 0 0, fl 0, fl 0, sv none 0 0, fl 0, fl 0, fl 0]) hS rfl rfl rfl rfl rfl rfl rfl rfl rfl rfl rfl rfl fun H hS => ?_
 refine E_nil ?_
 refine th_norm ?_
 refine AWp_seq ?_
 refine AWp_E rfl ?_
 refine ed (pt b1 2) rfl rfl (dv_fieldAddr rfl rfl) ?_
 refine ed (sv b.sa b.sn b.sc) rfl rfl (dv_load rfl (ld_box (hS.box 0 rfl) rfl rfl rfl)) ?_
 refine E_call (vs := [sv b.sa b.sn b.sc]) rfl rfl rfl rfl rfl rfl rfl (toSpringS_ok b.sa b.sn b.sc b.ss _ (hb.2.1.keep hS.keep)) ?_
 rintro _ H ⟨x8, x9, x10, x11, h12, rfl, rfl, hQ⟩
 have hlh12 := congrArg List.length h12
 have hS := hS.push hQ
 refine ed (pt b3 2) rfl rfl (dv_fieldAddr rfl rfl) ?_
 refine S_store (i := 2) (yv := sv x8 x11.length x10) (l' := [sv b4.pa b4.pn b4.pc, sv b4.ta b4.tn b4.tc, sv x8 x11.length x10, fl 0, fl 0, sv none 0 0, fl 0, fl 0, fl 0]) hS rfl rfl rfl rfl rfl rfl rfl rfl rfl rfl rfl rfl fun H hS => ?_
 refine E_nil ?_
 refine th_norm ?_
 refine AWp_seq ?_
 refine AWp_E rfl ?_
 refine ed (pt b1 3) rfl rfl (dv_fieldAddr rfl rfl) ?_
 refine ed (fl b.film) rfl rfl (dv_load rfl (ld_box (hS.box 0 rfl) rfl rfl rfl)) ?_
 refine ed (pt b3 3) rfl rfl (dv_fieldAddr rfl rfl) ?_
 refine S_store (i := 2) (yv := fl b.film) (l' := [sv b4.pa b4.pn b4.pc, sv b4.ta b4.tn b4.tc, sv x8 x11.length x10, fl b.film, fl 0, sv none 0 0, fl 0, fl 0, fl 0]) hS rfl rfl rfl rfl rfl rfl rfl rfl rfl rfl rfl rfl fun H hS => ?_
 refine E_nil ?_
 refine th_norm ?_
 refine AWp_seq ?_
 refine AWp_E rfl ?_
 refine ed (pt b1 4) rfl rfl (dv_fieldAddr rfl rfl) ?_
 refine ed (fl b.bend) rfl rfl (dv_load rfl (ld_box (hS.box 0 rfl) rfl rfl rfl)) ?_
 refine ed (pt b3 4) rfl rfl (dv_fieldAddr rfl rfl) ?_
 refine S_store (i := 2) (yv := fl b.bend) (l' := [sv b4.pa b4.pn b4.pc, sv b4.ta b4.tn b4.tc, sv x8 x11.length x10, fl b.film, fl b.bend, sv none 0 0, fl 0, fl 0, fl 0]) hS rfl rfl rfl rfl rfl rfl rfl rfl rfl rfl rfl rfl fun H hS => ?_
 refine E_nil ?_
 refine th_norm ?_
 refine AWp_seq ?_
 refine AWp_E rfl ?_
 refine ed (pt b1 5) rfl rfl (dv_fieldAddr rfl rfl) ?_
 refine ed (sv b.wa b.wn b.wc) rfl rfl (dv_load rfl (ld_box (hS.box 0 rfl) rfl rfl rfl)) ?_
 refine E_call (vs := [sv b.wa b.wn b.wc]) rfl rfl rfl rfl rfl rfl rfl (toFloat32S_ok b.wa b.wn b.wc b.ws _ (hb.2.2.keep hS.keep)) ?_
 rintro _ H ⟨x13, x14, x15, x16, h17, rfl, rfl, hQ⟩
 have hlh17 := congrArg List.length h17
 have hS := hS.push hQ
 refine ed (pt b3 5) rfl rfl (dv_fieldAddr rfl rfl) ?_
 refine S_store (i := 2) (yv := sv x13 x16.length x15) (l' := [sv b4.pa b4.pn b4.pc, sv b4.ta b4.tn b4.tc, sv x8 x11.length x10, fl b.film, fl b.bend, sv x13 x16.length x15, fl 0, fl 0, fl 0]) hS rfl rfl rfl rfl rfl rfl rfl rfl rfl rfl rfl rfl fun H hS => ?_
 refine E_nil ?_
 refine th_norm ?_
 refine AWp_seq ?_
 refine AWp_E rfl ?_
 refine ed (pt b1 6) rfl rfl (dv_fieldAddr rfl rfl) ?_
 refine ed (va b.fall) rfl rfl (dv_load rfl (ld_boxA (n := 3) (hS.box 0 rfl) rfl rfl (Nat.le_of_ble_eq_true rfl) rfl)) ?_
 refine E_call (vs := [va b.fall]) rfl rfl rfl rfl rfl rfl rfl (toVector_ok b.fall _) ?_
 rintro _ H ⟨v18, rfl, rfl, hQ⟩
 have hS := hS.up hQ.keep
 refine ed (pt b3 6) rfl rfl (dv_fieldAddr rfl rfl) ?_
 refine S_store (i := 2) (yv := va b.fall) (l' := [sv b4.pa b4.pn b4.pc, sv b4.ta b4.tn b4.tc, sv x8 x11.length x10, fl b.film, fl b.bend, sv x13 x16.length x15, fl b.fall.x, fl b.fall.y, fl b.fall.z]) hS rfl rfl rfl rfl rfl rfl rfl rfl rfl rfl rfl rfl fun H hS => ?_
 refine E_nil ?_
 refine th_norm ?_
 refine AWp_seq ?_
 refine AWp_E rfl ?_
 refine ed (.agg #[sv b4.pa b4.pn b4.pc, sv b4.ta b4.tn b4.tc, sv x8 x11.length x10, fl b.film, fl b.bend, sv x13 x16.length x15, fl b.fall.x, fl b.fall.y, fl b.fall.z]) rfl rfl (dv_load rfl (ld_boxA (n := 9) (hS.box 2 rfl) rfl rfl (Nat.le_of_ble_eq_true rfl) rfl)) ?_
 refine S_store (i := 1) (yv := .agg #[sv b4.pa b4.pn b4.pc, sv b4.ta b4.tn b4.tc, sv x8 x11.length x10, fl b.film, fl b.bend, sv x13 x16.length x15, fl b.fall.x, fl b.fall.y, fl b.fall.z]) (l' := [sv b4.pa b4.pn b4.pc, sv b4.ta b4.tn b4.tc, sv x8 x11.length x10, fl b.film, fl b.bend, sv x13 x16.length x15, fl b.fall.x, fl b.fall.y, fl b.fall.z]) hS rfl rfl rfl rfl rfl rfl rfl rfl rfl rfl rfl rfl fun H hS => ?_
 refine E_nil ?_
 refine th_norm ?_
 refine AWp_ret (?_)
 refine ret_of ?_
 refine readsRes_of (rs := [.cell 2 43]) (vs := [.agg #[sv b4.pa b4.pn b4.pc, sv b4.ta b4.tn b4.tc, sv x8 x11.length x10, fl b.film, fl b.bend, sv x13 x16.length x15, fl b.fall.x, fl b.fall.y, fl b.fall.z]]) rfl (re_cons (re_cell (p := pt b2 0) rfl (ld_boxA (n := 9) (hS.box 1 rfl) rfl rfl (Nat.le_of_ble_eq_true rfl) rfl)) (re_nil)) rfl ?_
 refine ⟨⟨b4, x8, x10, x11.length, x11, b.film, b.bend, x13, x15, x16.length, x16, b.fall⟩, ?_, ?_, ?_, ?_, rfl, hS.pick [3, 4, 5, 6, 7] rfl⟩
 · simp [LM.d, LB.d, *]
 · simp_all
 · assumption
 · simp_all
end Go.Ab

set_option maxRecDepth 100000
set_option maxHeartbeats 4000000
namespace Go.Ab
open Go.Proofs
theorem szVectorS_ok (a_a : Option Addr) (a_n a_c : Nat) (a : List (V3)) (l : Int) (H : AH) (ha : VS H encV a_a a_n a) (hl0 : 0 ≤ l ∧ l ≤ 1048576) : ACalls Tryz.prog 12 [sv a_a a_n a_c, iv l] H
  (fun r H' => ∃ (k_ : Int), (-1 ≤ k_ ∧ k_ ≤ l) ∧ r = iv k_ ∧ SepL H [] H') := by
 refine ACalls_of Tryz.func12 rfl (Nat.le_of_ble_eq_true rfl) ?_
 obtain ⟨H0, hH0⟩ : ∃ H0, H0 = H := ⟨_, rfl⟩
 have hS : SepL H0 [] H := hH0 ▸ SepL.refl H
 subst hH0
 obtain ⟨ha_s, ha_n, ha_b⟩ := id ha
 refine AWp_seq ?_
 refine AWp_E rfl ?_
 refine ed (iv 0) rfl rfl (dv_assign rfl) ?_
 refine E_nil ?_
 refine th_norm ?_
 refine AWp_seq ?_
 refine AWp_E rfl ?_
 refine ed (iv l) rfl rfl (dv_move rfl) ?_
 refine ed (sv a_a a_n a_c) rfl rfl (dv_move rfl) ?_
 refine ed (iv ((a_n : Nat) : Int)) rfl rfl (dv_len rfl rfl rfl rfl rfl) ?_
 refine ed (iv (l - ((a_n : Nat) : Int))) rfl rfl (dv_bin rfl rfl (bi_sub (by omega))) ?_
 refine ed (iv (l - ((a_n : Nat) : Int))) rfl rfl (dv_assign rfl) ?_
 refine E_nil ?_
 refine th_norm ?_
 refine AWp_seq ?_
 refine AWp_seq ?_
 refine AWp_E rfl ?_
 refine ed (iv (l - ((a_n : Nat) : Int))) rfl rfl (dv_move rfl) ?_
 rcases Decidable.em (l - ((a_n : Nat) : Int) < 0) with hc1 | hc1
 ·
  refine ed yes rfl rfl (dv_bin rfl rfl (bi_lss_t hc1)) ?_
  refine E_nil ?_
  refine th_norm ?_
  refine AWp_cond (t := true) rfl (fun _ => ?_) nofun
  refine AWp_seq ?_
  refine AWp_E rfl ?_
  refine ed (iv (-1)) rfl rfl (dv_assign rfl) ?_
  refine E_nil ?_
  refine th_norm ?_
  refine AWp_ret (th_ret (?_))
  refine ret_of ?_
  refine readsRes_of (rs := [.tmp 4]) (vs := [iv (-1)]) rfl (re_cons (re_tmp rfl) (re_nil)) rfl ?_
  refine ⟨(-1), ?_, rfl, .base hS.keep⟩
  · first | assumption | omega | (simp_all; done) | (simp_all; omega)
 ·
  refine ed no rfl rfl (dv_bin rfl rfl (bi_lss_f hc1)) ?_
  refine E_nil ?_
  refine th_norm ?_
  refine AWp_cond (t := false) rfl nofun (fun _ => ?_)
  refine AWp_skip ?_
  refine th_norm ?_
  refine AWp_seq ?_
  refine AWp_E rfl ?_
  refine ed (iv (l - ((a_n : Nat) : Int))) rfl rfl (dv_move rfl) ?_
  refine ed (iv (l - ((a_n : Nat) : Int))) rfl rfl (dv_assign rfl) ?_
  refine E_nil ?_
  refine th_norm ?_
  refine AWp_ret (?_)
  refine ret_of ?_
  refine readsRes_of (rs := [.tmp 4]) (vs := [iv (l - ((a_n : Nat) : Int))]) rfl (re_cons (re_tmp rfl) (re_nil)) rfl ?_
  refine ⟨(l - ((a_n : Nat) : Int)), ?_, rfl, .base hS.keep⟩
  · first | assumption | omega | (simp_all; done) | (simp_all; omega)
theorem szInt64S_ok (a_a : Option Addr) (a_n a_c : Nat) (a : List (Int)) (l : Int) (H : AH) (ha : VS H encI a_a a_n a) (hl0 : 0 ≤ l ∧ l ≤ 1048576) : ACalls Tryz.prog 112 [sv a_a a_n a_c, iv l] H
  (fun r H' => ∃ (k_ : Int), (-1 ≤ k_ ∧ k_ ≤ l) ∧ r = iv k_ ∧ SepL H [] H') := by
 refine ACalls_of Tryz.func112 rfl (Nat.le_of_ble_eq_true rfl) ?_
 obtain ⟨H0, hH0⟩ : ∃ H0, H0 = H := ⟨_, rfl⟩
 have hS : SepL H0 [] H := hH0 ▸ SepL.refl H
 subst hH0
 obtain ⟨ha_s, ha_n, ha_b⟩ := id ha
 refine AWp_seq ?_
 refine AWp_E rfl ?_
 refine ed (iv 0) rfl rfl (dv_assign rfl) ?_
 refine E_nil ?_
 refine th_norm ?_
 refine AWp_seq ?_
 refine AWp_E rfl ?_
 refine ed (iv l) rfl rfl (dv_move rfl) ?_
 refine ed (sv a_a a_n a_c) rfl rfl (dv_move rfl) ?_
 refine ed (iv ((a_n : Nat) : Int)) rfl rfl (dv_len rfl rfl rfl rfl rfl) ?_
 refine ed (iv (l - ((a_n : Nat) : Int))) rfl rfl (dv_bin rfl rfl (bi_sub (by omega))) ?_
 refine ed (iv (l - ((a_n : Nat) : Int))) rfl rfl (dv_assign rfl) ?_
 refine E_nil ?_
 refine th_norm ?_
 refine AWp_seq ?_
 refine AWp_seq ?_
 refine AWp_E rfl ?_
 refine ed (iv (l - ((a_n : Nat) : Int))) rfl rfl (dv_move rfl) ?_
 rcases Decidable.em (l - ((a_n : Nat) : Int) < 0) with hc1 | hc1
 ·
  refine ed yes rfl rfl (dv_bin rfl rfl (bi_lss_t hc1)) ?_
  refine E_nil ?_
  refine th_norm ?_
  refine AWp_cond (t := true) rfl (fun _ => ?_) nofun
  refine AWp_seq ?_
  refine AWp_E rfl ?_
  refine ed (iv (-1)) rfl rfl (dv_assign rfl) ?_
  refine E_nil ?_
  refine th_norm ?_
  refine AWp_ret (th_ret (?_))
  refine ret_of ?_
  refine readsRes_of (rs := [.tmp 4]) (vs := [iv (-1)]) rfl (re_cons (re_tmp rfl) (re_nil)) rfl ?_
  refine ⟨(-1), ?_, rfl, .base hS.keep⟩
  · first | assumption | omega | (simp_all; done) | (simp_all; omega)
 ·
  refine ed no rfl rfl (dv_bin rfl rfl (bi_lss_f hc1)) ?_
  refine E_nil ?_
  refine th_norm ?_
  refine AWp_cond (t := false) rfl nofun (fun _ => ?_)
  refine AWp_skip ?_
  refine th_norm ?_
  refine AWp_seq ?_
  refine AWp_E rfl ?_
  refine ed (iv (l - ((a_n : Nat) : Int))) rfl rfl (dv_move rfl) ?_
  refine ed (iv (l - ((a_n : Nat) : Int))) rfl rfl (dv_assign rfl) ?_
  refine E_nil ?_
  refine th_norm ?_
  refine AWp_ret (?_)
  refine ret_of ?_
  refine readsRes_of (rs := [.tmp 4]) (vs := [iv (l - ((a_n : Nat) : Int))]) rfl (re_cons (re_tmp rfl) (re_nil)) rfl ?_
  refine ⟨(l - ((a_n : Nat) : Int)), ?_, rfl, .base hS.keep⟩
  · first | assumption | omega | (simp_all; done) | (simp_all; omega)
theorem szSpringS_ok (a_a : Option Addr) (a_n a_c : Nat) (a : List (Spr)) (l : Int) (H : AH) (ha : VS H encS a_a a_n a) (hl0 : 0 ≤ l ∧ l ≤ 1048576) : ACalls Tryz.prog 45 [sv a_a a_n a_c, iv l] H
  (fun r H' => ∃ (k_ : Int), (-1 ≤ k_ ∧ k_ ≤ l) ∧ r = iv k_ ∧ SepL H [] H') := by
 refine ACalls_of Tryz.func45 rfl (Nat.le_of_ble_eq_true rfl) ?_
 obtain ⟨H0, hH0⟩ : ∃ H0, H0 = H := ⟨_, rfl⟩
 have hS : SepL H0 [] H := hH0 ▸ SepL.refl H
 subst hH0
 obtain ⟨ha_s, ha_n, ha_b⟩ := id ha
 refine AWp_seq ?_
 refine AWp_E rfl ?_
 refine ed (iv 0) rfl rfl (dv_assign rfl) ?_
 refine E_nil ?_
 refine th_norm ?_
 refine AWp_seq ?_
 refine AWp_E rfl ?_
 refine ed (iv l) rfl rfl (dv_move rfl) ?_
 refine ed (sv a_a a_n a_c) rfl rfl (dv_move rfl) ?_
 refine ed (iv ((a_n : Nat) : Int)) rfl rfl (dv_len rfl rfl rfl rfl rfl) ?_
 refine ed (iv (l - ((a_n : Nat) : Int))) rfl rfl (dv_bin rfl rfl (bi_sub (by omega))) ?_
 refine ed (iv (l - ((a_n : Nat) : Int))) rfl rfl (dv_assign rfl) ?_
 refine E_nil ?_
 refine th_norm ?_
 refine AWp_seq ?_
 refine AWp_seq ?_
 refine AWp_E rfl ?_
 refine ed (iv (l - ((a_n : Nat) : Int))) rfl rfl (dv_move rfl) ?_
 rcases Decidable.em (l - ((a_n : Nat) : Int) < 0) with hc1 | hc1
 ·
  refine ed yes rfl rfl (dv_bin rfl rfl (bi_lss_t hc1)) ?_
  refine E_nil ?_
  refine th_norm ?_
  refine AWp_cond (t := true) rfl (fun _ => ?_) nofun
  refine AWp_seq ?_
  refine AWp_E rfl ?_
  refine ed (iv (-1)) rfl rfl (dv_assign rfl) ?_
  refine E_nil ?_
  refine th_norm ?_
  refine AWp_ret (th_ret (?_))
  refine ret_of ?_
  refine readsRes_of (rs := [.tmp 4]) (vs := [iv (-1)]) rfl (re_cons (re_tmp rfl) (re_nil)) rfl ?_
  refine ⟨(-1), ?_, rfl, .base hS.keep⟩
  · first | assumption | omega | (simp_all; done) | (simp_all; omega)
 ·
  refine ed no rfl rfl (dv_bin rfl rfl (bi_lss_f hc1)) ?_
  refine E_nil ?_
  refine th_norm ?_
  refine AWp_cond (t := false) rfl nofun (fun _ => ?_)
  refine AWp_skip ?_
  refine th_norm ?_
  refine AWp_seq ?_
  refine AWp_E rfl ?_
  refine ed (iv (l - ((a_n : Nat) : Int))) rfl rfl (dv_move rfl) ?_
  refine ed (iv (l - ((a_n : Nat) : Int))) rfl rfl (dv_assign rfl) ?_
  refine E_nil ?_
  refine th_norm ?_
  refine AWp_ret (?_)
  refine ret_of ?_
  refine readsRes_of (rs := [.tmp 4]) (vs := [iv (l - ((a_n : Nat) : Int))]) rfl (re_cons (re_tmp rfl) (re_nil)) rfl ?_
  refine ⟨(l - ((a_n : Nat) : Int)), ?_, rfl, .base hS.keep⟩
  · first | assumption | omega | (simp_all; done) | (simp_all; omega)
theorem szFloat32S_ok (a_a : Option Addr) (a_n a_c : Nat) (a : List (Nat)) (l : Int) (H : AH) (ha : VS H encF a_a a_n a) (hl0 : 0 ≤ l ∧ l ≤ 1048576) : ACalls Tryz.prog 46 [sv a_a a_n a_c, iv l] H
  (fun r H' => ∃ (k_ : Int), (-1 ≤ k_ ∧ k_ ≤ l) ∧ r = iv k_ ∧ SepL H [] H') := by
 refine ACalls_of Tryz.func46 rfl (Nat.le_of_ble_eq_true rfl) ?_
 obtain ⟨H0, hH0⟩ : ∃ H0, H0 = H := ⟨_, rfl⟩
 have hS : SepL H0 [] H := hH0 ▸ SepL.refl H
 subst hH0
 obtain ⟨ha_s, ha_n, ha_b⟩ := id ha
 refine AWp_seq ?_
 refine AWp_E rfl ?_
 refine ed (iv 0) rfl rfl (dv_assign rfl) ?_
 refine E_nil ?_
 refine th_norm ?_
 refine AWp_seq ?_
 refine AWp_E rfl ?_
 refine ed (iv l) rfl rfl (dv_move rfl) ?_
 refine ed (sv a_a a_n a_c) rfl rfl (dv_move rfl) ?_
 refine ed (iv ((a_n : Nat) : Int)) rfl rfl (dv_len rfl rfl rfl rfl rfl) ?_
 refine ed (iv (l - ((a_n : Nat) : Int))) rfl rfl (dv_bin rfl rfl (bi_sub (by omega))) ?_
 refine ed (iv (l - ((a_n : Nat) : Int))) rfl rfl (dv_assign rfl) ?_
 refine E_nil ?_
 refine th_norm ?_
 refine AWp_seq ?_
 refine AWp_seq ?_
 refine AWp_E rfl ?_
 refine ed (iv (l - ((a_n : Nat) : Int))) rfl rfl (dv_move rfl) ?_
 rcases Decidable.em (l - ((a_n : Nat) : Int) < 0) with hc1 | hc1
 ·
  refine ed yes rfl rfl (dv_bin rfl rfl (bi_lss_t hc1)) ?_
  refine E_nil ?_
  refine th_norm ?_
  refine AWp_cond (t := true) rfl (fun _ => ?_) nofun
  refine AWp_seq ?_
  refine AWp_E rfl ?_
  refine ed (iv (-1)) rfl rfl (dv_assign rfl) ?_
  refine E_nil ?_
  refine th_norm ?_
  refine AWp_ret (th_ret (?_))
  refine ret_of ?_
  refine readsRes_of (rs := [.tmp 4]) (vs := [iv (-1)]) rfl (re_cons (re_tmp rfl) (re_nil)) rfl ?_
  refine ⟨(-1), ?_, rfl, .base hS.keep⟩
  · first | assumption | omega | (simp_all; done) | (simp_all; omega)
 ·
  refine ed no rfl rfl (dv_bin rfl rfl (bi_lss_f hc1)) ?_
  refine E_nil ?_
  refine th_norm ?_
  refine AWp_cond (t := false) rfl nofun (fun _ => ?_)
  refine AWp_skip ?_
  refine th_norm ?_
  refine AWp_seq ?_
  refine AWp_E rfl ?_
  refine ed (iv (l - ((a_n : Nat) : Int))) rfl rfl (dv_move rfl) ?_
  refine ed (iv (l - ((a_n : Nat) : Int))) rfl rfl (dv_assign rfl) ?_
  refine E_nil ?_
  refine th_norm ?_
  refine AWp_ret (?_)
  refine ret_of ?_
  refine readsRes_of (rs := [.tmp 4]) (vs := [iv (l - ((a_n : Nat) : Int))]) rfl (re_cons (re_tmp rfl) (re_nil)) rfl ?_
  refine ⟨(l - ((a_n : Nat) : Int)), ?_, rfl, .base hS.keep⟩
  · first | assumption | omega | (simp_all; done) | (simp_all; omega)
theorem szInt64SS_ok (a_a : Option Addr) (a_n a_c : Nat) (a : List Row) (l : Int) (H : AH) (ha : VR H a_a a_n a) (hl0 : 0 ≤ l ∧ l ≤ 1048576) : ACalls Tryz.prog 83 [sv a_a a_n a_c, iv l] H
  (fun r H' => ∃ (k_ : Int), (-1 ≤ k_ ∧ k_ ≤ l) ∧ r = iv k_ ∧ SepL H [] H') := by
 refine ACalls_of Tryz.func83 rfl (Nat.le_of_ble_eq_true rfl) ?_
 obtain ⟨H0, hH0⟩ : ∃ H0, H0 = H := ⟨_, rfl⟩
 have hS : SepL H0 [] H := hH0 ▸ SepL.refl H
 subst hH0
 obtain ⟨ha_s, ha_n, ha_b⟩ := id ha
 refine AWp_seq ?_
 refine AWp_E rfl ?_
 refine ed (iv 0) rfl rfl (dv_assign rfl) ?_
 refine E_nil ?_
 refine th_norm ?_
 refine AWp_seq ?_
 refine AWp_E rfl ?_
 refine ed (iv l) rfl rfl (dv_move rfl) ?_
 refine ed (sv a_a a_n a_c) rfl rfl (dv_move rfl) ?_
 refine ed (iv ((a_n : Nat) : Int)) rfl rfl (dv_len rfl rfl rfl rfl rfl) ?_
 refine ed (iv (l - ((a_n : Nat) : Int))) rfl rfl (dv_bin rfl rfl (bi_sub (by omega))) ?_
 refine ed (iv (l - ((a_n : Nat) : Int))) rfl rfl (dv_assign rfl) ?_
 refine E_nil ?_
 refine th_norm ?_
 refine AWp_seq ?_
 refine AWp_seq ?_
 refine AWp_E rfl ?_
 refine ed (iv (l - ((a_n : Nat) : Int))) rfl rfl (dv_move rfl) ?_
 rcases Decidable.em (l - ((a_n : Nat) : Int) < 0) with hc1 | hc1
 ·
  refine ed yes rfl rfl (dv_bin rfl rfl (bi_lss_t hc1)) ?_
  refine E_nil ?_
  refine th_norm ?_
  refine AWp_cond (t := true) rfl (fun _ => ?_) nofun
  refine AWp_seq ?_
  refine AWp_E rfl ?_
  refine ed (iv (-1)) rfl rfl (dv_assign rfl) ?_
  refine E_nil ?_
  refine th_norm ?_
  refine AWp_ret (th_ret (?_))
  refine ret_of ?_
  refine readsRes_of (rs := [.tmp 4]) (vs := [iv (-1)]) rfl (re_cons (re_tmp rfl) (re_nil)) rfl ?_
  refine ⟨(-1), ?_, rfl, .base hS.keep⟩
  · first | assumption | omega | (simp_all; done) | (simp_all; omega)
 ·
  refine ed no rfl rfl (dv_bin rfl rfl (bi_lss_f hc1)) ?_
  refine E_nil ?_
  refine th_norm ?_
  refine AWp_cond (t := false) rfl nofun (fun _ => ?_)
  refine AWp_skip ?_
  refine th_norm ?_
  refine AWp_seq ?_
  refine AWp_seq ?_
  refine AWp_E rfl ?_
  refine ed (iv 0) rfl rfl (dv_assign rfl) ?_
  refine E_nil ?_
  refine th_norm ?_
  refine AWp_block ?_
  obtain ⟨I2, hI2⟩ : ∃ I : Nat → Env → AH → Prop, ∀ m_ e_ Hl, I m_ e_ Hl = (∃ (q : Int) (t4 : Int) (i : Nat), m_ = a_n - i ∧ AllE [(0, sv a_a a_n a_c), (1, iv q), (4, iv t4), (5, iv ((i : Nat) : Int)), (6, iv l), (7, sv a_a a_n a_c), (8, iv ((a_n : Nat) : Int)), (9, iv (l - ((a_n : Nat) : Int))), (10, iv (l - ((a_n : Nat) : Int))), (11, no)] e_ ∧ SepL H0 [] Hl ∧ (i ≤ a_n) ∧ (0 ≤ q ∧ q ≤ l)) := ⟨_, fun _ _ _ => rfl⟩
  refine AWp_loop I2 (a_n - (0)) ?_ ?_
  ·
   rw [hI2]
   refine ⟨l - ((a_n : Nat) : Int), 0, 0, rfl, (all_c rfl (all_c rfl (all_c rfl (all_c rfl (all_c rfl (all_c rfl (all_c rfl (all_c rfl (all_c rfl (all_c rfl all_n)))))))))), hS, ?_, ?_⟩
   · omega
   · omega
  ·
   intro m3 _ H hl4
   rw [hI2] at hl4
   obtain ⟨q, t4, i, hm5, he6, hS, hi, hq⟩ := hl4
   obtain ⟨e7, rfl⟩ := he6.ex
   refine AWp_seq ?_
   refine AWp_seq ?_
   refine AWp_E rfl ?_
   refine ed (iv ((i : Nat) : Int)) rfl rfl (dv_move rfl) ?_
   refine ed (sv a_a a_n a_c) rfl rfl (dv_move rfl) ?_
   refine ed (iv ((a_n : Nat) : Int)) rfl rfl (dv_len rfl rfl rfl rfl rfl) ?_
   rcases Decidable.em (((i : Nat) : Int) < ((a_n : Nat) : Int)) with hc8 | hc8
   ·
    refine ed yes rfl rfl (dv_bin rfl rfl (bi_lss_t hc8)) ?_
    refine E_nil ?_
    refine th_norm ?_
    refine AWp_cond (t := true) rfl (fun _ => ?_) nofun
    refine AWp_skip ?_
    refine th_norm ?_
    refine AWp_seq ?_
    refine AWp_block ?_
    refine AWp_seq ?_
    refine AWp_E rfl ?_
    refine ed (sv a_a a_n a_c) rfl rfl (dv_move rfl) ?_
    refine ed (iv ((i : Nat) : Int)) rfl rfl (dv_move rfl) ?_
    obtain ⟨x9, hx9⟩ := get_el (xs := a) (i := i) (by omega)
    have hv10 := ha_s.el hx9
    have hv10l := hv10.2
    refine ed (sp a_a (i * 1)) rfl rfl (dv_indexAddr (a := sv a_a a_n a_c) (b := iv ((i : Nat) : Int)) rfl rfl (ix_sls (n := a_n) (i := i) (ha_s.1.keep hS.keep) hx9 rfl rfl rfl (by omega))) ?_
    refine ed (sv x9.a x9.xs.length x9.c) rfl rfl (dv_load rfl (ld_sls (sz := 1) (off := 0) (ha_s.1.keep hS.keep) hx9 (fun _ => rfl) rfl rfl rfl)) ?_
    refine ed (iv q) rfl rfl (dv_move rfl) ?_
    refine E_call (vs := [sv x9.a x9.xs.length x9.c, iv q]) rfl rfl rfl rfl rfl rfl rfl (szInt64S_ok x9.a x9.xs.length x9.c x9.xs q _ ⟨(hv10.1.keep hS.keep), rfl, hv10.2⟩ (by first | assumption | omega | (simp only [*]; assumption) | (simp_all; done))) ?_
    rintro _ H ⟨k11, h12, rfl, hQ⟩
    have hS := hS.up hQ.keep
    refine ed (iv k11) rfl rfl (dv_assign rfl) ?_
    refine E_nil ?_
    refine th_norm ?_
    refine AWp_seq ?_
    refine AWp_E rfl ?_
    refine ed (iv k11) rfl rfl (dv_move rfl) ?_
    rcases Decidable.em ((k11 : Int) < 0) with hc13 | hc13
    ·
     refine ed yes rfl rfl (dv_bin rfl rfl (bi_lss_t hc13)) ?_
     refine E_nil ?_
     refine th_norm ?_
     refine AWp_cond (t := true) rfl (fun _ => ?_) nofun
     refine AWp_seq ?_
     refine AWp_E rfl ?_
     refine ed (iv (-1)) rfl rfl (dv_assign rfl) ?_
     refine E_nil ?_
     refine th_norm ?_
     refine AWp_ret (bl_ret (th_ret (th_ret (bl_ret (th_ret (?_))))))
     refine ret_of ?_
     refine readsRes_of (rs := [.tmp 4]) (vs := [iv (-1)]) rfl (re_cons (re_tmp rfl) (re_nil)) rfl ?_
     refine ⟨(-1), ?_, rfl, .base hS.keep⟩
     · first | assumption | omega | (simp_all; done) | (simp_all; omega)
    ·
     refine ed no rfl rfl (dv_bin rfl rfl (bi_lss_f hc13)) ?_
     refine E_nil ?_
     refine th_norm ?_
     refine AWp_cond (t := false) rfl nofun (fun _ => ?_)
     refine AWp_skip ?_
     refine bl_norm ?_
     refine th_norm ?_
     refine AWp_E rfl ?_
     refine ed (iv ((i : Nat) : Int)) rfl rfl (dv_move rfl) ?_
     refine ed (iv ((i + 1 : Nat) : Int)) rfl rfl (dv_bin rfl rfl (bi_add (by omega))) ?_
     refine ed (iv ((i + 1 : Nat) : Int)) rfl rfl (dv_assign rfl) ?_
     refine E_nil ?_
     refine loop_next (I := I2) (a_n - (i + 1)) (by rw [hm5]; omega) ?_
     rw [hI2]
     refine ⟨k11, t4, i + 1, rfl, (all_c rfl (all_c rfl (all_c rfl (all_c rfl (all_c rfl (all_c rfl (all_c rfl (all_c rfl (all_c rfl (all_c rfl all_n)))))))))), hS, ?_, ?_⟩
     · omega
     · omega
   ·
    refine ed no rfl rfl (dv_bin rfl rfl (bi_lss_f hc8)) ?_
    refine E_nil ?_
    refine th_norm ?_
    refine AWp_cond (t := false) rfl nofun (fun _ => ?_)
    refine AWp_exit (th_exit (th_exit (bl_exit (?_))))
    refine th_norm ?_
    refine AWp_seq ?_
    refine AWp_E rfl ?_
    refine ed (iv q) rfl rfl (dv_move rfl) ?_
    refine ed (iv q) rfl rfl (dv_assign rfl) ?_
    refine E_nil ?_
    refine th_norm ?_
    refine AWp_ret (?_)
    refine ret_of ?_
    refine readsRes_of (rs := [.tmp 4]) (vs := [iv q]) rfl (re_cons (re_tmp rfl) (re_nil)) rfl ?_
    refine ⟨q, ?_, rfl, .base hS.keep⟩
    · first | assumption | omega | (simp_all; done) | (simp_all; omega)
theorem szMesh_ok (m : LM) (l : Int) (H : AH) (hm : m.ok H) (hl0 : 0 ≤ l ∧ l ≤ 1048576) : ACalls Tryz.prog 44 [mva m, iv l] H
  (fun r H' => ∃ (k_ : Int), (-1 ≤ k_ ∧ k_ ≤ l) ∧ r = iv k_ ∧ SepL H [] H') := by
 refine ACalls_of Tryz.func44 rfl (Nat.le_of_ble_eq_true rfl) ?_
 obtain ⟨H0, hH0⟩ : ∃ H0, H0 = H := ⟨_, rfl⟩
 have hS : SepL H0 [] H := hH0 ▸ SepL.refl H
 subst hH0
 obtain ⟨⟨hm_ps, hm_pn, hm_pb⟩, hm_ts, hm_tn, hm_tb⟩ := id hm
 refine AWp_seq ?_
 refine AWp_E rfl ?_
 refine S_box (l := [sv m.pa m.pn m.pc, sv m.ta m.tn m.tc]) hS rfl rfl rfl rfl rfl fun b1 H hS => ?_
 refine ed (iv 0) rfl rfl (dv_assign rfl) ?_
 refine E_nil ?_
 refine th_norm ?_
 refine AWp_seq ?_
 refine AWp_E rfl ?_
 refine ed (pt b1 0) rfl rfl (dv_fieldAddr rfl rfl) ?_
 refine ed (sv m.pa m.pn m.pc) rfl rfl (dv_load rfl (ld_box (hS.box 0 rfl) rfl rfl rfl)) ?_
 refine ed (iv l) rfl rfl (dv_move rfl) ?_
 refine E_call (vs := [sv m.pa m.pn m.pc, iv l]) rfl rfl rfl rfl rfl rfl rfl (szVectorS_ok m.pa m.pn m.pc m.ps l _ (hm.1.keep hS.keep) hl0) ?_
 rintro _ H ⟨k2, h3, rfl, hQ⟩
 have hS := hS.up hQ.keep
 refine ed (iv k2) rfl rfl (dv_assign rfl) ?_
 refine E_nil ?_
 refine th_norm ?_
 refine AWp_seq ?_
 refine AWp_seq ?_
 refine AWp_E rfl ?_
 refine ed (iv k2) rfl rfl (dv_move rfl) ?_
 rcases Decidable.em ((k2 : Int) < 0) with hc4 | hc4
 ·
  refine ed yes rfl rfl (dv_bin rfl rfl (bi_lss_t hc4)) ?_
  refine E_nil ?_
  refine th_norm ?_
  refine AWp_cond (t := true) rfl (fun _ => ?_) nofun
  refine AWp_seq ?_
  refine AWp_E rfl ?_
  refine ed (iv (-1)) rfl rfl (dv_assign rfl) ?_
  refine E_nil ?_
  refine th_norm ?_
  refine AWp_ret (th_ret (?_))
  refine ret_of ?_
  refine readsRes_of (rs := [.tmp 4]) (vs := [iv (-1)]) rfl (re_cons (re_tmp rfl) (re_nil)) rfl ?_
  refine ⟨(-1), ?_, rfl, .base hS.keep⟩
  · first | assumption | omega | (simp_all; done) | (simp_all; omega)
 ·
  refine ed no rfl rfl (dv_bin rfl rfl (bi_lss_f hc4)) ?_
  refine E_nil ?_
  refine th_norm ?_
  refine AWp_cond (t := false) rfl nofun (fun _ => ?_)
  refine AWp_skip ?_
  refine th_norm ?_
  refine AWp_seq ?_
  refine AWp_E rfl ?_
  refine ed (pt b1 1) rfl rfl (dv_fieldAddr rfl rfl) ?_
  refine ed (sv m.ta m.tn m.tc) rfl rfl (dv_load rfl (ld_box (hS.box 0 rfl) rfl rfl rfl)) ?_
  refine ed (iv k2) rfl rfl (dv_move rfl) ?_
  refine E_call (vs := [sv m.ta m.tn m.tc, iv k2]) rfl rfl rfl rfl rfl rfl rfl (szInt64SS_ok m.ta m.tn m.tc m.ts k2 _ (hm.2.keep hS.keep) (by first | assumption | omega | (simp only [*]; assumption) | (simp_all; done))) ?_
  rintro _ H ⟨k5, h6, rfl, hQ⟩
  have hS := hS.up hQ.keep
  refine ed (iv k5) rfl rfl (dv_assign rfl) ?_
  refine E_nil ?_
  refine th_norm ?_
  refine AWp_seq ?_
  refine AWp_seq ?_
  refine AWp_E rfl ?_
  refine ed (iv k5) rfl rfl (dv_move rfl) ?_
  rcases Decidable.em ((k5 : Int) < 0) with hc7 | hc7
  ·
   refine ed yes rfl rfl (dv_bin rfl rfl (bi_lss_t hc7)) ?_
   refine E_nil ?_
   refine th_norm ?_
   refine AWp_cond (t := true) rfl (fun _ => ?_) nofun
   refine AWp_seq ?_
   refine AWp_E rfl ?_
   refine ed (iv (-1)) rfl rfl (dv_assign rfl) ?_
   refine E_nil ?_
   refine th_norm ?_
   refine AWp_ret (th_ret (?_))
   refine ret_of ?_
   refine readsRes_of (rs := [.tmp 4]) (vs := [iv (-1)]) rfl (re_cons (re_tmp rfl) (re_nil)) rfl ?_
   refine ⟨(-1), ?_, rfl, .base hS.keep⟩
   · first | assumption | omega | (simp_all; done) | (simp_all; omega)
  ·
   refine ed no rfl rfl (dv_bin rfl rfl (bi_lss_f hc7)) ?_
   refine E_nil ?_
   refine th_norm ?_
   refine AWp_cond (t := false) rfl nofun (fun _ => ?_)
   refine AWp_skip ?_
   refine th_norm ?_
   refine AWp_seq ?_
   refine AWp_E rfl ?_
   refine ed (iv k5) rfl rfl (dv_move rfl) ?_
   refine ed (iv k5) rfl rfl (dv_assign rfl) ?_
   refine E_nil ?_
   refine th_norm ?_
   refine AWp_ret (?_)
   refine ret_of ?_
   refine readsRes_of (rs := [.tmp 4]) (vs := [iv k5]) rfl (re_cons (re_tmp rfl) (re_nil)) rfl ?_
   refine ⟨k5, ?_, rfl, .base hS.keep⟩
   · first | assumption | omega | (simp_all; done) | (simp_all; omega)
theorem szBody_ok (m : LB) (l : Int) (H : AH) (hm : m.ok H) (hl0 : 0 ≤ l ∧ l ≤ 1048576) : ACalls Tryz.prog 11 [bva m, iv l] H
  (fun r H' => ∃ (k_ : Int), (-1 ≤ k_ ∧ k_ ≤ l) ∧ r = iv k_ ∧ SepL H [] H') := by
 refine ACalls_of Tryz.func11 rfl (Nat.le_of_ble_eq_true rfl) ?_
 obtain ⟨H0, hH0⟩ : ∃ H0, H0 = H := ⟨_, rfl⟩
 have hS : SepL H0 [] H := hH0 ▸ SepL.refl H
 subst hH0
 obtain ⟨⟨hm_1_ps, hm_1_pn, hm_1_pb⟩, hm_1_ts, hm_1_tn, hm_1_tb⟩ := id hm.1
 obtain ⟨⟨hm_ss, hm_sn, hm_sb⟩, hm_ws, hm_wn, hm_wb⟩ := hm.2
 refine AWp_seq ?_
 refine AWp_E rfl ?_
 refine S_box (l := [sv m.m.pa m.m.pn m.m.pc, sv m.m.ta m.m.tn m.m.tc, sv m.sa m.sn m.sc, fl m.film, fl m.bend, sv m.wa m.wn m.wc, fl m.fall.x, fl m.fall.y, fl m.fall.z]) hS rfl rfl rfl rfl rfl fun b1 H hS => ?_
 refine ed (iv 0) rfl rfl (dv_assign rfl) ?_
 refine E_nil ?_
 refine th_norm ?_
 refine AWp_seq ?_
 refine AWp_E rfl ?_
 refine ed (pt b1 0) rfl rfl (dv_fieldAddr rfl rfl) ?_
 refine ed (mva m.m) rfl rfl (dv_load rfl (ld_boxA (n := 2) (hS.box 0 rfl) rfl rfl (Nat.le_of_ble_eq_true rfl) rfl)) ?_
 refine ed (iv l) rfl rfl (dv_move rfl) ?_
 refine E_call (vs := [mva m.m, iv l]) rfl rfl rfl rfl rfl rfl rfl (szMesh_ok m.m l _ (hm.1.keep hS.keep) hl0) ?_
 rintro _ H ⟨k2, h3, rfl, hQ⟩
 have hS := hS.up hQ.keep
 refine ed (iv k2) rfl rfl (dv_assign rfl) ?_
 refine E_nil ?_
 refine th_norm ?_
 refine AWp_seq ?_
 refine AWp_seq ?_
 refine AWp_E rfl ?_
 refine ed (iv k2) rfl rfl (dv_move rfl) ?_
 rcases Decidable.em ((k2 : Int) < 0) with hc4 | hc4
 ·
  refine ed yes rfl rfl (dv_bin rfl rfl (bi_lss_t hc4)) ?_
  refine E_nil ?_
  refine th_norm ?_
  refine AWp_cond (t := true) rfl (fun _ => ?_) nofun
  refine AWp_seq ?_
  refine AWp_E rfl ?_
  refine ed (iv (-1)) rfl rfl (dv_assign rfl) ?_
  refine E_nil ?_
  refine th_norm ?_
  refine AWp_ret (th_ret (?_))
  refine ret_of ?_
  refine readsRes_of (rs := [.tmp 4]) (vs := [iv (-1)]) rfl (re_cons (re_tmp rfl) (re_nil)) rfl ?_
  refine ⟨(-1), ?_, rfl, .base hS.keep⟩
  · first | assumption | omega | (simp_all; done) | (simp_all; omega)
 ·
  refine ed no rfl rfl (dv_bin rfl rfl (bi_lss_f hc4)) ?_
  refine E_nil ?_
  refine th_norm ?_
  refine AWp_cond (t := false) rfl nofun (fun _ => ?_)
  refine AWp_skip ?_
  refine th_norm ?_
  refine AWp_seq ?_
  refine AWp_E rfl ?_
  refine ed (pt b1 2) rfl rfl (dv_fieldAddr rfl rfl) ?_
  refine ed (sv m.sa m.sn m.sc) rfl rfl (dv_load rfl (ld_box (hS.box 0 rfl) rfl rfl rfl)) ?_
  refine ed (iv k2) rfl rfl (dv_move rfl) ?_
  refine E_call (vs := [sv m.sa m.sn m.sc, iv k2]) rfl rfl rfl rfl rfl rfl rfl (szSpringS_ok m.sa m.sn m.sc m.ss k2 _ (hm.2.1.keep hS.keep) (by first | assumption | omega | (simp only [*]; assumption) | (simp_all; done))) ?_
  rintro _ H ⟨k5, h6, rfl, hQ⟩
  have hS := hS.up hQ.keep
  refine ed (iv k5) rfl rfl (dv_assign rfl) ?_
  refine E_nil ?_
  refine th_norm ?_
  refine AWp_seq ?_
  refine AWp_seq ?_
  refine AWp_E rfl ?_
  refine ed (iv k5) rfl rfl (dv_move rfl) ?_
  rcases Decidable.em ((k5 : Int) < 0) with hc7 | hc7
  ·
   refine ed yes rfl rfl (dv_bin rfl rfl (bi_lss_t hc7)) ?_
   refine E_nil ?_
   refine th_norm ?_
   refine AWp_cond (t := true) rfl (fun _ => ?_) nofun
   refine AWp_seq ?_
   refine AWp_E rfl ?_
   refine ed (iv (-1)) rfl rfl (dv_assign rfl) ?_
   refine E_nil ?_
   refine th_norm ?_
   refine AWp_ret (th_ret (?_))
   refine ret_of ?_
   refine readsRes_of (rs := [.tmp 4]) (vs := [iv (-1)]) rfl (re_cons (re_tmp rfl) (re_nil)) rfl ?_
   refine ⟨(-1), ?_, rfl, .base hS.keep⟩
   · first | assumption | omega | (simp_all; done) | (simp_all; omega)
  ·
   refine ed no rfl rfl (dv_bin rfl rfl (bi_lss_f hc7)) ?_
   refine E_nil ?_
   refine th_norm ?_
   refine AWp_cond (t := false) rfl nofun (fun _ => ?_)
   refine AWp_skip ?_
   refine th_norm ?_
   refine AWp_seq ?_
   refine AWp_E rfl ?_
   refine ed (pt b1 5) rfl rfl (dv_fieldAddr rfl rfl) ?_
   refine ed (sv m.wa m.wn m.wc) rfl rfl (dv_load rfl (ld_box (hS.box 0 rfl) rfl rfl rfl)) ?_
   refine ed (iv k5) rfl rfl (dv_move rfl) ?_
   refine E_call (vs := [sv m.wa m.wn m.wc, iv k5]) rfl rfl rfl rfl rfl rfl rfl (szFloat32S_ok m.wa m.wn m.wc m.ws k5 _ (hm.2.2.keep hS.keep) (by first | assumption | omega | (simp only [*]; assumption) | (simp_all; done))) ?_
   rintro _ H ⟨k8, h9, rfl, hQ⟩
   have hS := hS.up hQ.keep
   refine ed (iv k8) rfl rfl (dv_assign rfl) ?_
   refine E_nil ?_
   refine th_norm ?_
   refine AWp_seq ?_
   refine AWp_seq ?_
   refine AWp_E rfl ?_
   refine ed (iv k8) rfl rfl (dv_move rfl) ?_
   rcases Decidable.em ((k8 : Int) < 0) with hc10 | hc10
   ·
    refine ed yes rfl rfl (dv_bin rfl rfl (bi_lss_t hc10)) ?_
    refine E_nil ?_
    refine th_norm ?_
    refine AWp_cond (t := true) rfl (fun _ => ?_) nofun
    refine AWp_seq ?_
    refine AWp_E rfl ?_
    refine ed (iv (-1)) rfl rfl (dv_assign rfl) ?_
    refine E_nil ?_
    refine th_norm ?_
    refine AWp_ret (th_ret (?_))
    refine ret_of ?_
    refine readsRes_of (rs := [.tmp 4]) (vs := [iv (-1)]) rfl (re_cons (re_tmp rfl) (re_nil)) rfl ?_
    refine ⟨(-1), ?_, rfl, .base hS.keep⟩
    · first | assumption | omega | (simp_all; done) | (simp_all; omega)
   ·
    refine ed no rfl rfl (dv_bin rfl rfl (bi_lss_f hc10)) ?_
    refine E_nil ?_
    refine th_norm ?_
    refine AWp_cond (t := false) rfl nofun (fun _ => ?_)
    refine AWp_skip ?_
    refine th_norm ?_
    refine AWp_seq ?_
    refine AWp_E rfl ?_
    refine ed (iv k8) rfl rfl (dv_move rfl) ?_
    refine ed (iv k8) rfl rfl (dv_assign rfl) ?_
    refine E_nil ?_
    refine th_norm ?_
    refine AWp_ret (?_)
    refine ret_of ?_
    refine readsRes_of (rs := [.tmp 4]) (vs := [iv k8]) rfl (re_cons (re_tmp rfl) (re_nil)) rfl ?_
    refine ⟨k8, ?_, rfl, .base hS.keep⟩
    · first | assumption | omega | (simp_all; done) | (simp_all; omega)
theorem markVectorS_ok (a_a : Option Addr) (a_n a_c : Nat) (a : List (V3)) (k : Int) (Hb H : AH) (han : a.length = a_n) (hab : a_n ≤ 1048576) (hS : SepL Hb [sl encV 41 3 a_a a_c a] H) (hk0 : 0 ≤ k ∧ k ≤ 1125899906842624) : ACalls Tryz.prog 21 [sv a_a a_n a_c, iv k] H
  (fun r H' => ∃ (y_ : List (V3)), ∃ (v_ : Int), y_ = markV k a_n ∧ y_.length = a_n ∧ k + 3 * (a_n : Int) = v_ ∧ r = iv v_ ∧ SepL Hb [sl encV 41 3 a_a a_c y_] H') := by
 refine ACalls_of Tryz.func21 rfl (Nat.le_of_ble_eq_true rfl) ?_
 refine AWp_seq ?_
 refine AWp_E rfl ?_
 refine ed (iv 0) rfl rfl (dv_assign rfl) ?_
 refine E_nil ?_
 refine th_norm ?_
 refine AWp_seq ?_
 refine AWp_seq ?_
 refine AWp_E rfl ?_
 refine ed (iv 0) rfl rfl (dv_assign rfl) ?_
 refine E_nil ?_
 refine th_norm ?_
 refine AWp_block ?_
 obtain ⟨I1, hI1⟩ : ∃ I : Nat → Env → AH → Prop, ∀ m_ e_ Hl, I m_ e_ Hl = (∃ (q : Int) (i : Nat) (o : List (V3)), m_ = a_n - i ∧ AllE [(0, sv a_a a_n a_c), (1, iv q), (4, iv 0), (5, iv ((i : Nat) : Int))] e_ ∧ SepL Hb [sl encV 41 3 a_a a_c o] Hl ∧ o.length = a_n ∧ (i ≤ a_n) ∧ (q = k + 3 * (i : Int)) ∧ (o = (List.range i).map (fun (i : Nat) => (⟨fk (k + 3 * (i : Int)), fk (k + 3 * (i : Int) + 1), fk (k + 3 * (i : Int) + 1 + 1)⟩ : V3)) ++ a.drop i)) := ⟨_, fun _ _ _ => rfl⟩
 refine AWp_loop I1 (a_n - (0)) ?_ ?_
 ·
  rw [hI1]
  refine ⟨k, 0, a, rfl, (all_c rfl (all_c rfl (all_c rfl (all_c rfl all_n)))), hS, han, ?_, ?_, ?_⟩
  · omega
  · omega
  · simp
 ·
  intro m2 _ H hl3
  rw [hI1] at hl3
  obtain ⟨q, i, o, hm4, he5, hS, ho_n, hi, hq, ho⟩ := hl3
  obtain ⟨e6, rfl⟩ := he5.ex
  refine AWp_seq ?_
  refine AWp_seq ?_
  refine AWp_E rfl ?_
  refine ed (iv ((i : Nat) : Int)) rfl rfl (dv_move rfl) ?_
  refine ed (sv a_a a_n a_c) rfl rfl (dv_move rfl) ?_
  refine ed (iv ((a_n : Nat) : Int)) rfl rfl (dv_len rfl rfl rfl rfl rfl) ?_
  rcases Decidable.em (((i : Nat) : Int) < ((a_n : Nat) : Int)) with hc7 | hc7
  ·
   refine ed yes rfl rfl (dv_bin rfl rfl (bi_lss_t hc7)) ?_
   refine E_nil ?_
   refine th_norm ?_
   refine AWp_cond (t := true) rfl (fun _ => ?_) nofun
   refine AWp_skip ?_
   refine th_norm ?_
   refine AWp_seq ?_
   refine AWp_block ?_
   refine AWp_seq ?_
   refine AWp_E rfl ?_
   refine ed (sv a_a a_n a_c) rfl rfl (dv_move rfl) ?_
   refine ed (iv ((i : Nat) : Int)) rfl rfl (dv_move rfl) ?_
   refine ed (iv q) rfl rfl (dv_move rfl) ?_
   refine ed (fl (FloatKind.nearest .f32 q)) rfl rfl (dv_conv rfl rfl) ?_
   obtain ⟨x8, hx8⟩ := get_el (xs := o) (i := i) (by omega)
   refine ed (sp a_a (i * 3)) rfl rfl (dv_indexAddr (a := sv a_a a_n a_c) (b := iv ((i : Nat) : Int)) rfl rfl (ix_sls (n := a_n) (i := i) (hS.sls 0 rfl) hx8 rfl rfl rfl (by omega))) ?_
   refine ed (sp a_a (i * 3)) rfl rfl (dv_fieldAddr (a := sp a_a (i * 3)) rfl (fa_sls (k := i * 3) (off := 0) (hS.sls 0 rfl) hx8 rfl rfl)) ?_
   refine S_storeS (k := 0) (i := i) (z' := (⟨FloatKind.nearest .f32 q, x8.y, x8.z⟩ : V3)) (off := 0) (yv := fl (FloatKind.nearest .f32 q)) hS rfl rfl rfl rfl (fun _ => rfl) rfl rfl rfl hx8 rfl rfl rfl rfl fun H hS => ?_
   have hx9 := set_get (z := (⟨FloatKind.nearest .f32 q, x8.y, x8.z⟩ : V3)) hx8
   refine E_nil ?_
   refine th_norm ?_
   refine AWp_seq ?_
   refine AWp_E rfl ?_
   refine ed (iv q) rfl rfl (dv_move rfl) ?_
   refine ed (iv (q + 1)) rfl rfl (dv_bin rfl rfl (bi_add (by omega))) ?_
   refine ed (iv (q + 1)) rfl rfl (dv_assign rfl) ?_
   refine E_nil ?_
   refine th_norm ?_
   refine AWp_seq ?_
   refine AWp_E rfl ?_
   refine ed (sv a_a a_n a_c) rfl rfl (dv_move rfl) ?_
   refine ed (iv ((i : Nat) : Int)) rfl rfl (dv_move rfl) ?_
   refine ed (iv (q + 1)) rfl rfl (dv_move rfl) ?_
   refine ed (fl (FloatKind.nearest .f32 (q + 1))) rfl rfl (dv_conv rfl rfl) ?_
   refine ed (sp a_a (i * 3)) rfl rfl (dv_indexAddr (a := sv a_a a_n a_c) (b := iv ((i : Nat) : Int)) rfl rfl (ix_sls (n := a_n) (i := i) (hS.sls 0 rfl) hx9 rfl rfl rfl (by omega))) ?_
   refine ed (sp a_a (i * 3 + 1)) rfl rfl (dv_fieldAddr (a := sp a_a (i * 3)) rfl (fa_sls (k := i * 3) (off := 1) (hS.sls 0 rfl) hx9 rfl rfl)) ?_
   refine S_storeS (k := 0) (i := i) (z' := (⟨FloatKind.nearest .f32 q, FloatKind.nearest .f32 (q + 1), x8.z⟩ : V3)) (off := 1) (yv := fl (FloatKind.nearest .f32 (q + 1))) hS rfl rfl rfl rfl (fun _ => rfl) rfl rfl rfl hx9 rfl rfl rfl rfl fun H hS => ?_
   have hx10 := set_get (z := (⟨FloatKind.nearest .f32 q, FloatKind.nearest .f32 (q + 1), x8.z⟩ : V3)) hx9
   refine E_nil ?_
   refine th_norm ?_
   refine AWp_seq ?_
   refine AWp_E rfl ?_
   refine ed (iv (q + 1)) rfl rfl (dv_move rfl) ?_
   refine ed (iv ((q + 1) + 1)) rfl rfl (dv_bin rfl rfl (bi_add (by omega))) ?_
   refine ed (iv ((q + 1) + 1)) rfl rfl (dv_assign rfl) ?_
   refine E_nil ?_
   refine th_norm ?_
   refine AWp_seq ?_
   refine AWp_E rfl ?_
   refine ed (sv a_a a_n a_c) rfl rfl (dv_move rfl) ?_
   refine ed (iv ((i : Nat) : Int)) rfl rfl (dv_move rfl) ?_
   refine ed (iv ((q + 1) + 1)) rfl rfl (dv_move rfl) ?_
   refine ed (fl (FloatKind.nearest .f32 ((q + 1) + 1))) rfl rfl (dv_conv rfl rfl) ?_
   refine ed (sp a_a (i * 3)) rfl rfl (dv_indexAddr (a := sv a_a a_n a_c) (b := iv ((i : Nat) : Int)) rfl rfl (ix_sls (n := a_n) (i := i) (hS.sls 0 rfl) hx10 rfl rfl rfl (by omega))) ?_
   refine ed (sp a_a (i * 3 + 2)) rfl rfl (dv_fieldAddr (a := sp a_a (i * 3)) rfl (fa_sls (k := i * 3) (off := 2) (hS.sls 0 rfl) hx10 rfl rfl)) ?_
   refine S_storeS (k := 0) (i := i) (z' := (⟨FloatKind.nearest .f32 q, FloatKind.nearest .f32 (q + 1), FloatKind.nearest .f32 ((q + 1) + 1)⟩ : V3)) (off := 2) (yv := fl (FloatKind.nearest .f32 ((q + 1) + 1))) hS rfl rfl rfl rfl (fun _ => rfl) rfl rfl rfl hx10 rfl rfl rfl rfl fun H hS => ?_
   have hx11 := set_get (z := (⟨FloatKind.nearest .f32 q, FloatKind.nearest .f32 (q + 1), FloatKind.nearest .f32 ((q + 1) + 1)⟩ : V3)) hx10
   refine E_nil ?_
   refine th_norm ?_
   refine AWp_E rfl ?_
   refine ed (iv ((q + 1) + 1)) rfl rfl (dv_move rfl) ?_
   refine ed (iv (((q + 1) + 1) + 1)) rfl rfl (dv_bin rfl rfl (bi_add (by omega))) ?_
   refine ed (iv (((q + 1) + 1) + 1)) rfl rfl (dv_assign rfl) ?_
   refine E_nil ?_
   refine bl_norm ?_
   refine th_norm ?_
   refine AWp_E rfl ?_
   refine ed (iv ((i : Nat) : Int)) rfl rfl (dv_move rfl) ?_
   refine ed (iv ((i + 1 : Nat) : Int)) rfl rfl (dv_bin rfl rfl (bi_add (by omega))) ?_
   refine ed (iv ((i + 1 : Nat) : Int)) rfl rfl (dv_assign rfl) ?_
   refine E_nil ?_
   refine loop_next (I := I1) (a_n - (i + 1)) (by rw [hm4]; omega) ?_
   rw [hI1]
   refine ⟨((q + 1) + 1) + 1, i + 1, ((o.set i (⟨FloatKind.nearest .f32 q, x8.y, x8.z⟩ : V3)).set i (⟨FloatKind.nearest .f32 q, FloatKind.nearest .f32 (q + 1), x8.z⟩ : V3)).set i (⟨FloatKind.nearest .f32 q, FloatKind.nearest .f32 (q + 1), FloatKind.nearest .f32 ((q + 1) + 1)⟩ : V3), rfl, (all_c rfl (all_c rfl (all_c rfl (all_c rfl all_n)))), hS, (by rw [List.length_set]; exact (by rw [List.length_set]; exact (by rw [List.length_set]; exact ho_n))), ?_, ?_, ?_⟩
   · omega
   · omega
   · rw [List.set_set, List.set_set, ho]; exact mark_step rfl (by omega) (by subst hq; rfl)
  ·
   refine ed no rfl rfl (dv_bin rfl rfl (bi_lss_f hc7)) ?_
   refine E_nil ?_
   refine th_norm ?_
   refine AWp_cond (t := false) rfl nofun (fun _ => ?_)
   refine AWp_exit (th_exit (th_exit (bl_exit (?_))))
   refine th_norm ?_
   refine AWp_seq ?_
   refine AWp_E rfl ?_
   refine ed (iv q) rfl rfl (dv_move rfl) ?_
   refine ed (iv q) rfl rfl (dv_assign rfl) ?_
   refine E_nil ?_
   refine th_norm ?_
   refine AWp_ret (?_)
   refine ret_of ?_
   refine readsRes_of (rs := [.tmp 4]) (vs := [iv q]) rfl (re_cons (re_tmp rfl) (re_nil)) rfl ?_
   refine ⟨o, q, ?_, ?_, ?_, rfl, hS.pick [0] rfl⟩
   · have hii : i = a.length := by omega
     rw [ho, hii]; simp [markV, han]
   · first | exact ho_n | omega
   · first | exact ho_n | omega
theorem markSpringS_ok (a_a : Option Addr) (a_n a_c : Nat) (a : List (Spr)) (k : Int) (Hb H : AH) (han : a.length = a_n) (hab : a_n ≤ 1048576) (hS : SepL Hb [sl encS 116 4 a_a a_c a] H) (hk0 : 0 ≤ k ∧ k ≤ 1125899906842624) : ACalls Tryz.prog 63 [sv a_a a_n a_c, iv k] H
  (fun r H' => ∃ (y_ : List (Spr)), ∃ (v_ : Int), y_ = markS k a_n ∧ y_.length = a_n ∧ k + 4 * (a_n : Int) = v_ ∧ r = iv v_ ∧ SepL Hb [sl encS 116 4 a_a a_c y_] H') := by
 refine ACalls_of Tryz.func63 rfl (Nat.le_of_ble_eq_true rfl) ?_
 refine AWp_seq ?_
 refine AWp_E rfl ?_
 refine ed (iv 0) rfl rfl (dv_assign rfl) ?_
 refine E_nil ?_
 refine th_norm ?_
 refine AWp_seq ?_
 refine AWp_seq ?_
 refine AWp_E rfl ?_
 refine ed (iv 0) rfl rfl (dv_assign rfl) ?_
 refine E_nil ?_
 refine th_norm ?_
 refine AWp_block ?_
 obtain ⟨I1, hI1⟩ : ∃ I : Nat → Env → AH → Prop, ∀ m_ e_ Hl, I m_ e_ Hl = (∃ (q : Int) (i : Nat) (o : List (Spr)), m_ = a_n - i ∧ AllE [(0, sv a_a a_n a_c), (1, iv q), (4, iv 0), (5, iv ((i : Nat) : Int))] e_ ∧ SepL Hb [sl encS 116 4 a_a a_c o] Hl ∧ o.length = a_n ∧ (i ≤ a_n) ∧ (q = k + 4 * (i : Int)) ∧ (o = (List.range i).map (fun (i : Nat) => (⟨k + 4 * (i : Int), k + 4 * (i : Int) + 1, fk (k + 4 * (i : Int) + 1 + 1), fk (k + 4 * (i : Int) + 1 + 1 + 1)⟩ : Spr)) ++ a.drop i)) := ⟨_, fun _ _ _ => rfl⟩
 refine AWp_loop I1 (a_n - (0)) ?_ ?_
 ·
  rw [hI1]
  refine ⟨k, 0, a, rfl, (all_c rfl (all_c rfl (all_c rfl (all_c rfl all_n)))), hS, han, ?_, ?_, ?_⟩
  · omega
  · omega
  · simp
 ·
  intro m2 _ H hl3
  rw [hI1] at hl3
  obtain ⟨q, i, o, hm4, he5, hS, ho_n, hi, hq, ho⟩ := hl3
  obtain ⟨e6, rfl⟩ := he5.ex
  refine AWp_seq ?_
  refine AWp_seq ?_
  refine AWp_E rfl ?_
  refine ed (iv ((i : Nat) : Int)) rfl rfl (dv_move rfl) ?_
  refine ed (sv a_a a_n a_c) rfl rfl (dv_move rfl) ?_
  refine ed (iv ((a_n : Nat) : Int)) rfl rfl (dv_len rfl rfl rfl rfl rfl) ?_
  rcases Decidable.em (((i : Nat) : Int) < ((a_n : Nat) : Int)) with hc7 | hc7
  ·
   refine ed yes rfl rfl (dv_bin rfl rfl (bi_lss_t hc7)) ?_
   refine E_nil ?_
   refine th_norm ?_
   refine AWp_cond (t := true) rfl (fun _ => ?_) nofun
   refine AWp_skip ?_
   refine th_norm ?_
   refine AWp_seq ?_
   refine AWp_block ?_
   refine AWp_seq ?_
   refine AWp_E rfl ?_
   refine ed (sv a_a a_n a_c) rfl rfl (dv_move rfl) ?_
   refine ed (iv ((i : Nat) : Int)) rfl rfl (dv_move rfl) ?_
   refine ed (iv q) rfl rfl (dv_move rfl) ?_
   obtain ⟨x8, hx8⟩ := get_el (xs := o) (i := i) (by omega)
   refine ed (sp a_a (i * 4)) rfl rfl (dv_indexAddr (a := sv a_a a_n a_c) (b := iv ((i : Nat) : Int)) rfl rfl (ix_sls (n := a_n) (i := i) (hS.sls 0 rfl) hx8 rfl rfl rfl (by omega))) ?_
   refine ed (sp a_a (i * 4)) rfl rfl (dv_fieldAddr (a := sp a_a (i * 4)) rfl (fa_sls (k := i * 4) (off := 0) (hS.sls 0 rfl) hx8 rfl rfl)) ?_
   refine S_storeS (k := 0) (i := i) (z' := (⟨q, x8.B, x8.Long, x8.Stiff⟩ : Spr)) (off := 0) (yv := iv q) hS rfl rfl rfl rfl (fun _ => rfl) rfl rfl rfl hx8 rfl rfl rfl rfl fun H hS => ?_
   have hx9 := set_get (z := (⟨q, x8.B, x8.Long, x8.Stiff⟩ : Spr)) hx8
   refine E_nil ?_
   refine th_norm ?_
   refine AWp_seq ?_
   refine AWp_E rfl ?_
   refine ed (iv q) rfl rfl (dv_move rfl) ?_
   refine ed (iv (q + 1)) rfl rfl (dv_bin rfl rfl (bi_add (by omega))) ?_
   refine ed (iv (q + 1)) rfl rfl (dv_assign rfl) ?_
   refine E_nil ?_
   refine th_norm ?_
   refine AWp_seq ?_
   refine AWp_E rfl ?_
   refine ed (sv a_a a_n a_c) rfl rfl (dv_move rfl) ?_
   refine ed (iv ((i : Nat) : Int)) rfl rfl (dv_move rfl) ?_
   refine ed (iv (q + 1)) rfl rfl (dv_move rfl) ?_
   refine ed (sp a_a (i * 4)) rfl rfl (dv_indexAddr (a := sv a_a a_n a_c) (b := iv ((i : Nat) : Int)) rfl rfl (ix_sls (n := a_n) (i := i) (hS.sls 0 rfl) hx9 rfl rfl rfl (by omega))) ?_
   refine ed (sp a_a (i * 4 + 1)) rfl rfl (dv_fieldAddr (a := sp a_a (i * 4)) rfl (fa_sls (k := i * 4) (off := 1) (hS.sls 0 rfl) hx9 rfl rfl)) ?_
   refine S_storeS (k := 0) (i := i) (z' := (⟨q, q + 1, x8.Long, x8.Stiff⟩ : Spr)) (off := 1) (yv := iv (q + 1)) hS rfl rfl rfl rfl (fun _ => rfl) rfl rfl rfl hx9 rfl rfl rfl rfl fun H hS => ?_
   have hx10 := set_get (z := (⟨q, q + 1, x8.Long, x8.Stiff⟩ : Spr)) hx9
   refine E_nil ?_
   refine th_norm ?_
   refine AWp_seq ?_
   refine AWp_E rfl ?_
   refine ed (iv (q + 1)) rfl rfl (dv_move rfl) ?_
   refine ed (iv ((q + 1) + 1)) rfl rfl (dv_bin rfl rfl (bi_add (by omega))) ?_
   refine ed (iv ((q + 1) + 1)) rfl rfl (dv_assign rfl) ?_
   refine E_nil ?_
   refine th_norm ?_
   refine AWp_seq ?_
   refine AWp_E rfl ?_
   refine ed (sv a_a a_n a_c) rfl rfl (dv_move rfl) ?_
   refine ed (iv ((i : Nat) : Int)) rfl rfl (dv_move rfl) ?_
   refine ed (iv ((q + 1) + 1)) rfl rfl (dv_move rfl) ?_
   refine ed (fl (FloatKind.nearest .f32 ((q + 1) + 1))) rfl rfl (dv_conv rfl rfl) ?_
   refine ed (sp a_a (i * 4)) rfl rfl (dv_indexAddr (a := sv a_a a_n a_c) (b := iv ((i : Nat) : Int)) rfl rfl (ix_sls (n := a_n) (i := i) (hS.sls 0 rfl) hx10 rfl rfl rfl (by omega))) ?_
   refine ed (sp a_a (i * 4 + 2)) rfl rfl (dv_fieldAddr (a := sp a_a (i * 4)) rfl (fa_sls (k := i * 4) (off := 2) (hS.sls 0 rfl) hx10 rfl rfl)) ?_
   refine S_storeS (k := 0) (i := i) (z' := (⟨q, q + 1, FloatKind.nearest .f32 ((q + 1) + 1), x8.Stiff⟩ : Spr)) (off := 2) (yv := fl (FloatKind.nearest .f32 ((q + 1) + 1))) hS rfl rfl rfl rfl (fun _ => rfl) rfl rfl rfl hx10 rfl rfl rfl rfl fun H hS => ?_
   have hx11 := set_get (z := (⟨q, q + 1, FloatKind.nearest .f32 ((q + 1) + 1), x8.Stiff⟩ : Spr)) hx10
   refine E_nil ?_
   refine th_norm ?_
   refine AWp_seq ?_
   refine AWp_E rfl ?_
   refine ed (iv ((q + 1) + 1)) rfl rfl (dv_move rfl) ?_
   refine ed (iv (((q + 1) + 1) + 1)) rfl rfl (dv_bin rfl rfl (bi_add (by omega))) ?_
   refine ed (iv (((q + 1) + 1) + 1)) rfl rfl (dv_assign rfl) ?_
   refine E_nil ?_
   refine th_norm ?_
   refine AWp_seq ?_
   refine AWp_E rfl ?_
   refine ed (sv a_a a_n a_c) rfl rfl (dv_move rfl) ?_
   refine ed (iv ((i : Nat) : Int)) rfl rfl (dv_move rfl) ?_
   refine ed (iv (((q + 1) + 1) + 1)) rfl rfl (dv_move rfl) ?_
   refine ed (fl (FloatKind.nearest .f32 (((q + 1) + 1) + 1))) rfl rfl (dv_conv rfl rfl) ?_
   refine ed (sp a_a (i * 4)) rfl rfl (dv_indexAddr (a := sv a_a a_n a_c) (b := iv ((i : Nat) : Int)) rfl rfl (ix_sls (n := a_n) (i := i) (hS.sls 0 rfl) hx11 rfl rfl rfl (by omega))) ?_
   refine ed (sp a_a (i * 4 + 3)) rfl rfl (dv_fieldAddr (a := sp a_a (i * 4)) rfl (fa_sls (k := i * 4) (off := 3) (hS.sls 0 rfl) hx11 rfl rfl)) ?_
   refine S_storeS (k := 0) (i := i) (z' := (⟨q, q + 1, FloatKind.nearest .f32 ((q + 1) + 1), FloatKind.nearest .f32 (((q + 1) + 1) + 1)⟩ : Spr)) (off := 3) (yv := fl (FloatKind.nearest .f32 (((q + 1) + 1) + 1))) hS rfl rfl rfl rfl (fun _ => rfl) rfl rfl rfl hx11 rfl rfl rfl rfl fun H hS => ?_
   have hx12 := set_get (z := (⟨q, q + 1, FloatKind.nearest .f32 ((q + 1) + 1), FloatKind.nearest .f32 (((q + 1) + 1) + 1)⟩ : Spr)) hx11
   refine E_nil ?_
   refine th_norm ?_
   refine AWp_E rfl ?_
   refine ed (iv (((q + 1) + 1) + 1)) rfl rfl (dv_move rfl) ?_
   refine ed (iv ((((q + 1) + 1) + 1) + 1)) rfl rfl (dv_bin rfl rfl (bi_add (by omega))) ?_
   refine ed (iv ((((q + 1) + 1) + 1) + 1)) rfl rfl (dv_assign rfl) ?_
   refine E_nil ?_
   refine bl_norm ?_
   refine th_norm ?_
   refine AWp_E rfl ?_
   refine ed (iv ((i : Nat) : Int)) rfl rfl (dv_move rfl) ?_
   refine ed (iv ((i + 1 : Nat) : Int)) rfl rfl (dv_bin rfl rfl (bi_add (by omega))) ?_
   refine ed (iv ((i + 1 : Nat) : Int)) rfl rfl (dv_assign rfl) ?_
   refine E_nil ?_
   refine loop_next (I := I1) (a_n - (i + 1)) (by rw [hm4]; omega) ?_
   rw [hI1]
   refine ⟨(((q + 1) + 1) + 1) + 1, i + 1, (((o.set i (⟨q, x8.B, x8.Long, x8.Stiff⟩ : Spr)).set i (⟨q, q + 1, x8.Long, x8.Stiff⟩ : Spr)).set i (⟨q, q + 1, FloatKind.nearest .f32 ((q + 1) + 1), x8.Stiff⟩ : Spr)).set i (⟨q, q + 1, FloatKind.nearest .f32 ((q + 1) + 1), FloatKind.nearest .f32 (((q + 1) + 1) + 1)⟩ : Spr), rfl, (all_c rfl (all_c rfl (all_c rfl (all_c rfl all_n)))), hS, (by rw [List.length_set]; exact (by rw [List.length_set]; exact (by rw [List.length_set]; exact (by rw [List.length_set]; exact ho_n)))), ?_, ?_, ?_⟩
   · omega
   · omega
   · rw [List.set_set, List.set_set, List.set_set, ho]; exact mark_step rfl (by omega) (by subst hq; rfl)
  ·
   refine ed no rfl rfl (dv_bin rfl rfl (bi_lss_f hc7)) ?_
   refine E_nil ?_
   refine th_norm ?_
   refine AWp_cond (t := false) rfl nofun (fun _ => ?_)
   refine AWp_exit (th_exit (th_exit (bl_exit (?_))))
   refine th_norm ?_
   refine AWp_seq ?_
   refine AWp_E rfl ?_
   refine ed (iv q) rfl rfl (dv_move rfl) ?_
   refine ed (iv q) rfl rfl (dv_assign rfl) ?_
   refine E_nil ?_
   refine th_norm ?_
   refine AWp_ret (?_)
   refine ret_of ?_
   refine readsRes_of (rs := [.tmp 4]) (vs := [iv q]) rfl (re_cons (re_tmp rfl) (re_nil)) rfl ?_
   refine ⟨o, q, ?_, ?_, ?_, rfl, hS.pick [0] rfl⟩
   · have hii : i = a.length := by omega
     rw [ho, hii]; simp [markS, han]
   · first | exact ho_n | omega
   · first | exact ho_n | omega
theorem markInt64S_ok (a_a : Option Addr) (a_n a_c : Nat) (a : List (Int)) (k : Int) (Hb H : AH) (han : a.length = a_n) (hab : a_n ≤ 1048576) (hS : SepL Hb [sl encI 2 1 a_a a_c a] H) (hk0 : 0 ≤ k ∧ k ≤ 1125899906842624) : ACalls Tryz.prog 31 [sv a_a a_n a_c, iv k] H
  (fun r H' => ∃ (y_ : List (Int)), ∃ (v_ : Int), y_ = markI k a_n ∧ y_.length = a_n ∧ k + (a_n : Int) = v_ ∧ r = iv v_ ∧ SepL Hb [sl encI 2 1 a_a a_c y_] H') := by
 refine ACalls_of Tryz.func31 rfl (Nat.le_of_ble_eq_true rfl) ?_
 refine AWp_seq ?_
 refine AWp_E rfl ?_
 refine ed (iv 0) rfl rfl (dv_assign rfl) ?_
 refine E_nil ?_
 refine th_norm ?_
 refine AWp_seq ?_
 refine AWp_seq ?_
 refine AWp_E rfl ?_
 refine ed (iv 0) rfl rfl (dv_assign rfl) ?_
 refine E_nil ?_
 refine th_norm ?_
 refine AWp_block ?_
 obtain ⟨I1, hI1⟩ : ∃ I : Nat → Env → AH → Prop, ∀ m_ e_ Hl, I m_ e_ Hl = (∃ (q : Int) (i : Nat) (o : List (Int)), m_ = a_n - i ∧ AllE [(0, sv a_a a_n a_c), (1, iv q), (4, iv 0), (5, iv ((i : Nat) : Int))] e_ ∧ SepL Hb [sl encI 2 1 a_a a_c o] Hl ∧ o.length = a_n ∧ (i ≤ a_n) ∧ (q = k + (i : Int)) ∧ (o = (List.range i).map (fun (i : Nat) => k + (i : Int)) ++ a.drop i)) := ⟨_, fun _ _ _ => rfl⟩
 refine AWp_loop I1 (a_n - (0)) ?_ ?_
 ·
  rw [hI1]
  refine ⟨k, 0, a, rfl, (all_c rfl (all_c rfl (all_c rfl (all_c rfl all_n)))), hS, han, ?_, ?_, ?_⟩
  · omega
  · omega
  · simp
 ·
  intro m2 _ H hl3
  rw [hI1] at hl3
  obtain ⟨q, i, o, hm4, he5, hS, ho_n, hi, hq, ho⟩ := hl3
  obtain ⟨e6, rfl⟩ := he5.ex
  refine AWp_seq ?_
  refine AWp_seq ?_
  refine AWp_E rfl ?_
  refine ed (iv ((i : Nat) : Int)) rfl rfl (dv_move rfl) ?_
  refine ed (sv a_a a_n a_c) rfl rfl (dv_move rfl) ?_
  refine ed (iv ((a_n : Nat) : Int)) rfl rfl (dv_len rfl rfl rfl rfl rfl) ?_
  rcases Decidable.em (((i : Nat) : Int) < ((a_n : Nat) : Int)) with hc7 | hc7
  ·
   refine ed yes rfl rfl (dv_bin rfl rfl (bi_lss_t hc7)) ?_
   refine E_nil ?_
   refine th_norm ?_
   refine AWp_cond (t := true) rfl (fun _ => ?_) nofun
   refine AWp_skip ?_
   refine th_norm ?_
   refine AWp_seq ?_
   refine AWp_block ?_
   refine AWp_seq ?_
   refine AWp_E rfl ?_
   refine ed (sv a_a a_n a_c) rfl rfl (dv_move rfl) ?_
   refine ed (iv ((i : Nat) : Int)) rfl rfl (dv_move rfl) ?_
   refine ed (iv q) rfl rfl (dv_move rfl) ?_
   obtain ⟨x8, hx8⟩ := get_el (xs := o) (i := i) (by omega)
   refine ed (sp a_a (i * 1)) rfl rfl (dv_indexAddr (a := sv a_a a_n a_c) (b := iv ((i : Nat) : Int)) rfl rfl (ix_sls (n := a_n) (i := i) (hS.sls 0 rfl) hx8 rfl rfl rfl (by omega))) ?_
   refine S_storeS (k := 0) (i := i) (z' := q) (off := 0) (yv := iv q) hS rfl rfl rfl rfl (fun _ => rfl) rfl rfl rfl hx8 rfl rfl rfl rfl fun H hS => ?_
   have hx9 := set_get (z := q) hx8
   refine E_nil ?_
   refine th_norm ?_
   refine AWp_E rfl ?_
   refine ed (iv q) rfl rfl (dv_move rfl) ?_
   refine ed (iv (q + 1)) rfl rfl (dv_bin rfl rfl (bi_add (by omega))) ?_
   refine ed (iv (q + 1)) rfl rfl (dv_assign rfl) ?_
   refine E_nil ?_
   refine bl_norm ?_
   refine th_norm ?_
   refine AWp_E rfl ?_
   refine ed (iv ((i : Nat) : Int)) rfl rfl (dv_move rfl) ?_
   refine ed (iv ((i + 1 : Nat) : Int)) rfl rfl (dv_bin rfl rfl (bi_add (by omega))) ?_
   refine ed (iv ((i + 1 : Nat) : Int)) rfl rfl (dv_assign rfl) ?_
   refine E_nil ?_
   refine loop_next (I := I1) (a_n - (i + 1)) (by rw [hm4]; omega) ?_
   rw [hI1]
   refine ⟨q + 1, i + 1, o.set i q, rfl, (all_c rfl (all_c rfl (all_c rfl (all_c rfl all_n)))), hS, (by rw [List.length_set]; exact ho_n), ?_, ?_, ?_⟩
   · omega
   · omega
   · rw [ho]; exact mark_step rfl (by omega) (by subst hq; rfl)
  ·
   refine ed no rfl rfl (dv_bin rfl rfl (bi_lss_f hc7)) ?_
   refine E_nil ?_
   refine th_norm ?_
   refine AWp_cond (t := false) rfl nofun (fun _ => ?_)
   refine AWp_exit (th_exit (th_exit (bl_exit (?_))))
   refine th_norm ?_
   refine AWp_seq ?_
   refine AWp_E rfl ?_
   refine ed (iv q) rfl rfl (dv_move rfl) ?_
   refine ed (iv q) rfl rfl (dv_assign rfl) ?_
   refine E_nil ?_
   refine th_norm ?_
   refine AWp_ret (?_)
   refine ret_of ?_
   refine readsRes_of (rs := [.tmp 4]) (vs := [iv q]) rfl (re_cons (re_tmp rfl) (re_nil)) rfl ?_
   refine ⟨o, q, ?_, ?_, ?_, rfl, hS.pick [0] rfl⟩
   · have hii : i = a.length := by omega
     rw [ho, hii]; simp [markI, han]
   · first | exact ho_n | omega
   · first | exact ho_n | omega
theorem markFloat32S_ok (a_a : Option Addr) (a_n a_c : Nat) (a : List (Nat)) (k : Int) (Hb H : AH) (han : a.length = a_n) (hab : a_n ≤ 1048576) (hS : SepL Hb [sl encF 27 1 a_a a_c a] H) (hk0 : 0 ≤ k ∧ k ≤ 1125899906842624) : ACalls Tryz.prog 22 [sv a_a a_n a_c, iv k] H
  (fun r H' => ∃ (y_ : List (Nat)), ∃ (v_ : Int), y_ = markF k a_n ∧ y_.length = a_n ∧ k + (a_n : Int) = v_ ∧ r = iv v_ ∧ SepL Hb [sl encF 27 1 a_a a_c y_] H') := by
 refine ACalls_of Tryz.func22 rfl (Nat.le_of_ble_eq_true rfl) ?_
 refine AWp_seq ?_
 refine AWp_E rfl ?_
 refine ed (iv 0) rfl rfl (dv_assign rfl) ?_
 refine E_nil ?_
 refine th_norm ?_
 refine AWp_seq ?_
 refine AWp_seq ?_
 refine AWp_E rfl ?_
 refine ed (iv 0) rfl rfl (dv_assign rfl) ?_
 refine E_nil ?_
 refine th_norm ?_
 refine AWp_block ?_
 obtain ⟨I1, hI1⟩ : ∃ I : Nat → Env → AH → Prop, ∀ m_ e_ Hl, I m_ e_ Hl = (∃ (q : Int) (i : Nat) (o : List (Nat)), m_ = a_n - i ∧ AllE [(0, sv a_a a_n a_c), (1, iv q), (4, iv 0), (5, iv ((i : Nat) : Int))] e_ ∧ SepL Hb [sl encF 27 1 a_a a_c o] Hl ∧ o.length = a_n ∧ (i ≤ a_n) ∧ (q = k + (i : Int)) ∧ (o = (List.range i).map (fun (i : Nat) => fk (k + (i : Int))) ++ a.drop i)) := ⟨_, fun _ _ _ => rfl⟩
 refine AWp_loop I1 (a_n - (0)) ?_ ?_
 ·
  rw [hI1]
  refine ⟨k, 0, a, rfl, (all_c rfl (all_c rfl (all_c rfl (all_c rfl all_n)))), hS, han, ?_, ?_, ?_⟩
  · omega
  · omega
  · simp
 ·
  intro m2 _ H hl3
  rw [hI1] at hl3
  obtain ⟨q, i, o, hm4, he5, hS, ho_n, hi, hq, ho⟩ := hl3
  obtain ⟨e6, rfl⟩ := he5.ex
  refine AWp_seq ?_
  refine AWp_seq ?_
  refine AWp_E rfl ?_
  refine ed (iv ((i : Nat) : Int)) rfl rfl (dv_move rfl) ?_
  refine ed (sv a_a a_n a_c) rfl rfl (dv_move rfl) ?_
  refine ed (iv ((a_n : Nat) : Int)) rfl rfl (dv_len rfl rfl rfl rfl rfl) ?_
  rcases Decidable.em (((i : Nat) : Int) < ((a_n : Nat) : Int)) with hc7 | hc7
  ·
   refine ed yes rfl rfl (dv_bin rfl rfl (bi_lss_t hc7)) ?_
   refine E_nil ?_
   refine th_norm ?_
   refine AWp_cond (t := true) rfl (fun _ => ?_) nofun
   refine AWp_skip ?_
   refine th_norm ?_
   refine AWp_seq ?_
   refine AWp_block ?_
   refine AWp_seq ?_
   refine AWp_E rfl ?_
   refine ed (sv a_a a_n a_c) rfl rfl (dv_move rfl) ?_
   refine ed (iv ((i : Nat) : Int)) rfl rfl (dv_move rfl) ?_
   refine ed (iv q) rfl rfl (dv_move rfl) ?_
   refine ed (fl (FloatKind.nearest .f32 q)) rfl rfl (dv_conv rfl rfl) ?_
   obtain ⟨x8, hx8⟩ := get_el (xs := o) (i := i) (by omega)
   refine ed (sp a_a (i * 1)) rfl rfl (dv_indexAddr (a := sv a_a a_n a_c) (b := iv ((i : Nat) : Int)) rfl rfl (ix_sls (n := a_n) (i := i) (hS.sls 0 rfl) hx8 rfl rfl rfl (by omega))) ?_
   refine S_storeS (k := 0) (i := i) (z' := FloatKind.nearest .f32 q) (off := 0) (yv := fl (FloatKind.nearest .f32 q)) hS rfl rfl rfl rfl (fun _ => rfl) rfl rfl rfl hx8 rfl rfl rfl rfl fun H hS => ?_
   have hx9 := set_get (z := FloatKind.nearest .f32 q) hx8
   refine E_nil ?_
   refine th_norm ?_
   refine AWp_E rfl ?_
   refine ed (iv q) rfl rfl (dv_move rfl) ?_
   refine ed (iv (q + 1)) rfl rfl (dv_bin rfl rfl (bi_add (by omega))) ?_
   refine ed (iv (q + 1)) rfl rfl (dv_assign rfl) ?_
   refine E_nil ?_
   refine bl_norm ?_
   refine th_norm ?_
   refine AWp_E rfl ?_
   refine ed (iv ((i : Nat) : Int)) rfl rfl (dv_move rfl) ?_
   refine ed (iv ((i + 1 : Nat) : Int)) rfl rfl (dv_bin rfl rfl (bi_add (by omega))) ?_
   refine ed (iv ((i + 1 : Nat) : Int)) rfl rfl (dv_assign rfl) ?_
   refine E_nil ?_
   refine loop_next (I := I1) (a_n - (i + 1)) (by rw [hm4]; omega) ?_
   rw [hI1]
   refine ⟨q + 1, i + 1, o.set i (FloatKind.nearest .f32 q), rfl, (all_c rfl (all_c rfl (all_c rfl (all_c rfl all_n)))), hS, (by rw [List.length_set]; exact ho_n), ?_, ?_, ?_⟩
   · omega
   · omega
   · rw [ho]; exact mark_step rfl (by omega) (by subst hq; rfl)
  ·
   refine ed no rfl rfl (dv_bin rfl rfl (bi_lss_f hc7)) ?_
   refine E_nil ?_
   refine th_norm ?_
   refine AWp_cond (t := false) rfl nofun (fun _ => ?_)
   refine AWp_exit (th_exit (th_exit (bl_exit (?_))))
   refine th_norm ?_
   refine AWp_seq ?_
   refine AWp_E rfl ?_
   refine ed (iv q) rfl rfl (dv_move rfl) ?_
   refine ed (iv q) rfl rfl (dv_assign rfl) ?_
   refine E_nil ?_
   refine th_norm ?_
   refine AWp_ret (?_)
   refine ret_of ?_
   refine readsRes_of (rs := [.tmp 4]) (vs := [iv q]) rfl (re_cons (re_tmp rfl) (re_nil)) rfl ?_
   refine ⟨o, q, ?_, ?_, ?_, rfl, hS.pick [0] rfl⟩
   · have hii : i = a.length := by omega
     rw [ho, hii]; simp [markF, han]
   · first | exact ho_n | omega
   · first | exact ho_n | omega
theorem heldFloat32S_ok (a_a : Option Addr) (a_n a_c : Nat) (a : List (Nat)) (k : Int) (H : AH) (ha : VS H encF a_a a_n a) (hm : a = markF k a_n) (hk0 : 0 ≤ k ∧ k ≤ 1125899906842624) : ACalls Tryz.prog 23 [sv a_a a_n a_c, iv k] H
  (fun r H' => ∃ (v_ : Int), k + (a_n : Int) = v_ ∧ r = iv v_ ∧ SepL H [] H') := by
 refine ACalls_of Tryz.func23 rfl (Nat.le_of_ble_eq_true rfl) ?_
 obtain ⟨H0, hH0⟩ : ∃ H0, H0 = H := ⟨_, rfl⟩
 have hS : SepL H0 [] H := hH0 ▸ SepL.refl H
 subst hH0
 obtain ⟨ha_s, ha_n, ha_b⟩ := id ha
 refine AWp_seq ?_
 refine AWp_E rfl ?_
 refine ed (iv 0) rfl rfl (dv_assign rfl) ?_
 refine E_nil ?_
 refine th_norm ?_
 refine AWp_seq ?_
 refine AWp_seq ?_
 refine AWp_E rfl ?_
 refine ed (iv 0) rfl rfl (dv_assign rfl) ?_
 refine E_nil ?_
 refine th_norm ?_
 refine AWp_block ?_
 obtain ⟨I1, hI1⟩ : ∃ I : Nat → Env → AH → Prop, ∀ m_ e_ Hl, I m_ e_ Hl = (∃ (q : Int) (t4 : Int) (i : Nat), m_ = a_n - i ∧ AllE [(0, sv a_a a_n a_c), (1, iv q), (4, iv t4), (5, iv ((i : Nat) : Int))] e_ ∧ SepL H0 [] Hl ∧ (i ≤ a_n) ∧ (q = k + (i : Int))) := ⟨_, fun _ _ _ => rfl⟩
 refine AWp_loop I1 (a_n - (0)) ?_ ?_
 ·
  rw [hI1]
  refine ⟨k, 0, 0, rfl, (all_c rfl (all_c rfl (all_c rfl (all_c rfl all_n)))), hS, ?_, ?_⟩
  · omega
  · omega
 ·
  intro m2 _ H hl3
  rw [hI1] at hl3
  obtain ⟨q, t4, i, hm4, he5, hS, hi, hq⟩ := hl3
  obtain ⟨e6, rfl⟩ := he5.ex
  refine AWp_seq ?_
  refine AWp_seq ?_
  refine AWp_E rfl ?_
  refine ed (iv ((i : Nat) : Int)) rfl rfl (dv_move rfl) ?_
  refine ed (sv a_a a_n a_c) rfl rfl (dv_move rfl) ?_
  refine ed (iv ((a_n : Nat) : Int)) rfl rfl (dv_len rfl rfl rfl rfl rfl) ?_
  rcases Decidable.em (((i : Nat) : Int) < ((a_n : Nat) : Int)) with hc7 | hc7
  ·
   refine ed yes rfl rfl (dv_bin rfl rfl (bi_lss_t hc7)) ?_
   refine E_nil ?_
   refine th_norm ?_
   refine AWp_cond (t := true) rfl (fun _ => ?_) nofun
   refine AWp_skip ?_
   refine th_norm ?_
   refine AWp_seq ?_
   refine AWp_block ?_
   refine AWp_seq ?_
   refine AWp_seq ?_
   refine AWp_E rfl ?_
   refine ed (sv a_a a_n a_c) rfl rfl (dv_move rfl) ?_
   refine ed (iv ((i : Nat) : Int)) rfl rfl (dv_move rfl) ?_
   obtain ⟨x8, hx8⟩ := get_el (xs := a) (i := i) (by omega)
   refine ed (sp a_a (i * 1)) rfl rfl (dv_indexAddr (a := sv a_a a_n a_c) (b := iv ((i : Nat) : Int)) rfl rfl (ix_sls (n := a_n) (i := i) (ha_s.keep hS.keep) hx8 rfl rfl rfl (by omega))) ?_
   refine ed (fl x8) rfl rfl (dv_load rfl (ld_sls (sz := 1) (off := 0) (ha_s.keep hS.keep) hx8 (fun _ => rfl) rfl rfl rfl)) ?_
   refine ed (iv q) rfl rfl (dv_move rfl) ?_
   refine ed (fl (FloatKind.nearest .f32 q)) rfl rfl (dv_conv rfl rfl) ?_
   rcases Bool.eq_false_or_eq_true (feq .f32 x8 (FloatKind.nearest .f32 q)) with hc9 | hc9
   ·
    refine ed no rfl rfl (dv_bin rfl rfl (isB bf_neq (by rw [hc9]; rfl))) ?_
    refine E_nil ?_
    refine th_norm ?_
    refine AWp_cond (t := false) rfl nofun (fun _ => ?_)
    refine AWp_skip ?_
    refine th_norm ?_
    refine AWp_E rfl ?_
    refine ed (iv q) rfl rfl (dv_move rfl) ?_
    refine ed (iv (q + 1)) rfl rfl (dv_bin rfl rfl (bi_add (by omega))) ?_
    refine ed (iv (q + 1)) rfl rfl (dv_assign rfl) ?_
    refine E_nil ?_
    refine bl_norm ?_
    refine th_norm ?_
    refine AWp_E rfl ?_
    refine ed (iv ((i : Nat) : Int)) rfl rfl (dv_move rfl) ?_
    refine ed (iv ((i + 1 : Nat) : Int)) rfl rfl (dv_bin rfl rfl (bi_add (by omega))) ?_
    refine ed (iv ((i + 1 : Nat) : Int)) rfl rfl (dv_assign rfl) ?_
    refine E_nil ?_
    refine loop_next (I := I1) (a_n - (i + 1)) (by rw [hm4]; omega) ?_
    rw [hI1]
    refine ⟨q + 1, t4, i + 1, rfl, (all_c rfl (all_c rfl (all_c rfl (all_c rfl all_n)))), hS, ?_, ?_⟩
    · omega
    · omega
   ·
    refine ed yes rfl rfl (dv_bin rfl rfl (isB bf_neq (by rw [hc9]; rfl))) ?_
    refine E_nil ?_
    refine th_norm ?_
    refine AWp_cond (t := true) rfl (fun _ => ?_) nofun
    refine AWp_seq ?_
    refine AWp_E rfl ?_
    refine ed (iv (-1)) rfl rfl (dv_assign rfl) ?_
    refine E_nil ?_
    refine th_norm ?_
    refine AWp_ret (th_ret (bl_ret (th_ret (th_ret (bl_ret (th_ret (?_)))))))
    refine ret_of ?_
    refine readsRes_of (rs := [.tmp 4]) (vs := [iv (-1)]) rfl (re_cons (re_tmp rfl) (re_nil)) rfl ?_
    refine ⟨(-1), ?_, rfl, .base hS.keep⟩
    · exfalso
      subst hm
      have hg := range_get (f := _) hx8
      subst hg
      subst hq
      first | (exact hc9 rfl) | (exact absurd ((fk_same _).symm.trans hc9) (by decide))
  ·
   refine ed no rfl rfl (dv_bin rfl rfl (bi_lss_f hc7)) ?_
   refine E_nil ?_
   refine th_norm ?_
   refine AWp_cond (t := false) rfl nofun (fun _ => ?_)
   refine AWp_exit (th_exit (th_exit (bl_exit (?_))))
   refine th_norm ?_
   refine AWp_seq ?_
   refine AWp_E rfl ?_
   refine ed (iv q) rfl rfl (dv_move rfl) ?_
   refine ed (iv q) rfl rfl (dv_assign rfl) ?_
   refine E_nil ?_
   refine th_norm ?_
   refine AWp_ret (?_)
   refine ret_of ?_
   refine readsRes_of (rs := [.tmp 4]) (vs := [iv q]) rfl (re_cons (re_tmp rfl) (re_nil)) rfl ?_
   refine ⟨q, ?_, rfl, .base hS.keep⟩
   · omega
theorem markInt64SS_ok (a_a : Option Addr) (a_n a_c : Nat) (a : List Row) (k : Int) (Hb H : AH) (han : a.length = a_n) (hab : a_n ≤ 1048576) (har : ∀ q ∈ a, q.xs.length ≤ 1048576) (hS : SepL Hb [sl encR 53 1 a_a a_c a, rowsE 2 a] H) (hk0 : 0 ≤ k ∧ k ≤ 8388608) : ACalls Tryz.prog 100 [sv a_a a_n a_c, iv k] H
  (fun r H' => ∃ (y_ : List Row), ∃ (v_ : Int), y_ = markR k a ∧ y_.length = a_n ∧ k + (rsum a : Int) = v_ ∧ r = iv v_ ∧ SepL Hb [sl encR 53 1 a_a a_c y_, rowsE 2 y_] H') := by
 refine ACalls_of Tryz.func100 rfl (Nat.le_of_ble_eq_true rfl) ?_
 refine AWp_seq ?_
 refine AWp_E rfl ?_
 refine ed (iv 0) rfl rfl (dv_assign rfl) ?_
 refine E_nil ?_
 refine th_norm ?_
 refine AWp_seq ?_
 refine AWp_seq ?_
 refine AWp_E rfl ?_
 refine ed (iv 0) rfl rfl (dv_assign rfl) ?_
 refine E_nil ?_
 refine th_norm ?_
 refine AWp_block ?_
 have hS := hS.zero (rowE1 2)
 obtain ⟨I1, hI1⟩ : ∃ I : Nat → Env → AH → Prop, ∀ m_ e_ Hl, I m_ e_ Hl = (∃ (q : Int) (i : Nat), m_ = a_n - i ∧ AllE [(0, sv a_a a_n a_c), (1, iv q), (4, iv 0), (5, iv ((i : Nat) : Int))] e_ ∧ SepL Hb [sl encR 53 1 a_a a_c a, rowsE 2 (a.drop i), rowsE 2 (markR k (a.take i))] Hl ∧ (i ≤ a_n) ∧ (q = k + (rsum (a.take i) : Int))) := ⟨_, fun _ _ _ => rfl⟩
 refine AWp_loop I1 (a_n - (0)) ?_ ?_
 ·
  rw [hI1]
  refine ⟨k, 0, rfl, (all_c rfl (all_c rfl (all_c rfl (all_c rfl all_n)))), hS, ?_, ?_⟩
  · omega
  · simp [rsum]
 ·
  intro m2 _ H hl3
  rw [hI1] at hl3
  obtain ⟨q, i, hm4, he5, hS, hi, hq⟩ := hl3
  obtain ⟨e6, rfl⟩ := he5.ex
  have hrs := rsum_le har
  have hrt := rsum_takele (rs := a) i
  refine AWp_seq ?_
  refine AWp_seq ?_
  refine AWp_E rfl ?_
  refine ed (iv ((i : Nat) : Int)) rfl rfl (dv_move rfl) ?_
  refine ed (sv a_a a_n a_c) rfl rfl (dv_move rfl) ?_
  refine ed (iv ((a_n : Nat) : Int)) rfl rfl (dv_len rfl rfl rfl rfl rfl) ?_
  rcases Decidable.em (((i : Nat) : Int) < ((a_n : Nat) : Int)) with hc7 | hc7
  ·
   refine ed yes rfl rfl (dv_bin rfl rfl (bi_lss_t hc7)) ?_
   refine E_nil ?_
   refine th_norm ?_
   refine AWp_cond (t := true) rfl (fun _ => ?_) nofun
   refine AWp_skip ?_
   refine th_norm ?_
   refine AWp_seq ?_
   refine AWp_block ?_
   refine AWp_E rfl ?_
   refine ed (sv a_a a_n a_c) rfl rfl (dv_move rfl) ?_
   refine ed (iv ((i : Nat) : Int)) rfl rfl (dv_move rfl) ?_
   obtain ⟨x8, hx8⟩ := get_el (xs := a) (i := i) (by omega)
   have hxl := har x8 (List.mem_of_getElem? hx8)
   have hS := hS.uncons (f := rowE1 2) 1 rfl (drop_step hx8)
   refine ed (sp a_a (i * 1)) rfl rfl (dv_indexAddr (a := sv a_a a_n a_c) (b := iv ((i : Nat) : Int)) rfl rfl (ix_sls (n := a_n) (i := i) (hS.sls 0 rfl) hx8 rfl rfl rfl (by omega))) ?_
   refine ed (sv x8.a x8.xs.length x8.c) rfl rfl (dv_load rfl (ld_sls (sz := 1) (off := 0) (hS.sls 0 rfl) hx8 (fun _ => rfl) rfl rfl rfl)) ?_
   refine ed (iv q) rfl rfl (dv_move rfl) ?_
   obtain ⟨Hy, hKy, _, hN, hQ⟩ := hS.split [2] rfl
   have hY := hQ [] _ (SepL.refl Hy)
   refine E_call (vs := [sv x8.a x8.xs.length x8.c, iv q]) rfl rfl rfl rfl rfl rfl rfl (markInt64S_ok x8.a x8.xs.length x8.c x8.xs q _ _ rfl (by omega) hN (by first | assumption | omega | (simp only [*]; assumption) | (simp_all; done))) ?_
   rintro _ H ⟨y9, v10, h11, h12, rfl, rfl, hP⟩
   have hlh11 := congrArg List.length h11
   have hS : SepL _ [sl encR 53 1 a_a a_c a, rowsE 2 (markR k (a.take i)), rowsE 2 (a.drop (i + 1)), sl encI 2 1 x8.a x8.c y9] H := hQ _ _ hP
   refine ed (iv (q + (x8.xs.length : Int))) rfl rfl (dv_assign rfl) ?_
   refine E_nil ?_
   refine bl_norm ?_
   refine th_norm ?_
   refine AWp_E rfl ?_
   refine ed (iv ((i : Nat) : Int)) rfl rfl (dv_move rfl) ?_
   refine ed (iv ((i + 1 : Nat) : Int)) rfl rfl (dv_bin rfl rfl (bi_add (by omega))) ?_
   refine ed (iv ((i + 1 : Nat) : Int)) rfl rfl (dv_assign rfl) ?_
   refine E_nil ?_
   have hS := hS.join (f := rowE1 2) (q := (⟨x8.a, x8.c, y9⟩ : Row)) 1 3 rfl rfl rfl
   have hmk : markR k (a.take i) ++ [(⟨x8.a, x8.c, y9⟩ : Row)] = markR k (a.take (i + 1)) := by rw [take_step hx8, markR_app, h11, hq]; rfl
   rw [hmk] at hS
   refine loop_next (I := I1) (a_n - (i + 1)) (by rw [hm4]; omega) ?_
   rw [hI1]
   refine ⟨(q + (x8.xs.length : Int)), i + 1, rfl, (all_c rfl (all_c rfl (all_c rfl (all_c rfl all_n)))), hS, ?_, ?_⟩
   · omega
   · rw [rsum_take hx8]; omega
  ·
   refine ed no rfl rfl (dv_bin rfl rfl (bi_lss_f hc7)) ?_
   refine E_nil ?_
   refine th_norm ?_
   refine AWp_cond (t := false) rfl nofun (fun _ => ?_)
   refine AWp_exit (th_exit (th_exit (bl_exit (?_))))
   refine th_norm ?_
   refine AWp_seq ?_
   refine AWp_E rfl ?_
   refine ed (iv q) rfl rfl (dv_move rfl) ?_
   refine ed (iv q) rfl rfl (dv_assign rfl) ?_
   refine E_nil ?_
   refine th_norm ?_
   refine AWp_ret (?_)
   refine ret_of ?_
   refine readsRes_of (rs := [.tmp 4]) (vs := [iv q]) rfl (re_cons (re_tmp rfl) (re_nil)) rfl ?_
   have hii : i = a.length := by omega
   rw [hii, List.take_length] at hq
   have hmk : markR k (a.take i) = markR k a := by rw [hii, List.take_length]
   rw [hmk] at hS
   have hS := hS.swapR 0 k rfl
   obtain ⟨y0, hy0⟩ : ∃ y, y = markR k a := ⟨_, rfl⟩
   rw [← hy0] at hS
   refine ⟨y0, q, ?_, ?_, ?_, rfl, hS.pick [0, 2] rfl⟩
   · first | exact hy0 | omega | (rw [hy0, markR_len]; exact han)
   · first | exact hy0 | omega | (rw [hy0, markR_len]; exact han)
   · first | exact hy0 | omega | (rw [hy0, markR_len]; exact han)
end Go.Ab

set_option maxRecDepth 100000
set_option maxHeartbeats 4000000
namespace Go.Ab
open Go.Proofs
theorem eqInt64SS_ok (a_a : Option Addr) (a_n a_c : Nat) (a : List Row) (b_a : Option Addr) (b_n b_c : Nat) (b : List Row) (H : AH) (ha : VR H a_a a_n a) (hb : VR H b_a b_n b) (hab : rxs a = rxs b) : ACalls Tryz.prog 98 [sv a_a a_n a_c, sv b_a b_n b_c] H
  (fun r H' => r = yes ∧ SepL H [] H') := by
 refine ACalls_of Tryz.func98 rfl (Nat.le_of_ble_eq_true rfl) ?_
 obtain ⟨H0, hH0⟩ : ∃ H0, H0 = H := ⟨_, rfl⟩
 have hS : SepL H0 [] H := hH0 ▸ SepL.refl H
 subst hH0
 obtain ⟨ha_s, ha_n, ha_b⟩ := id ha
 obtain ⟨hb_s, hb_n, hb_b⟩ := id hb
 have hlab : a.length = b.length := by simpa [rxs] using congrArg List.length hab
 refine AWp_seq ?_
 refine AWp_E rfl ?_
 refine ed no rfl rfl (dv_assign rfl) ?_
 refine E_nil ?_
 refine th_norm ?_
 refine AWp_seq ?_
 refine AWp_seq ?_
 refine AWp_E rfl ?_
 refine ed (sv a_a a_n a_c) rfl rfl (dv_move rfl) ?_
 refine ed (iv ((a_n : Nat) : Int)) rfl rfl (dv_len rfl rfl rfl rfl rfl) ?_
 refine ed (sv b_a b_n b_c) rfl rfl (dv_move rfl) ?_
 refine ed (iv ((b_n : Nat) : Int)) rfl rfl (dv_len rfl rfl rfl rfl rfl) ?_
 rcases Decidable.em (((a_n : Nat) : Int) ≠ ((b_n : Nat) : Int)) with hc1 | hc1
 ·
  refine ed yes rfl rfl (dv_bin rfl rfl (bi_neq_t hc1)) ?_
  refine E_nil ?_
  refine th_norm ?_
  refine AWp_cond (t := true) rfl (fun _ => ?_) nofun
  refine AWp_seq ?_
  refine AWp_E rfl ?_
  refine ed no rfl rfl (dv_assign rfl) ?_
  refine E_nil ?_
  refine th_norm ?_
  refine AWp_ret (th_ret (?_))
  refine ret_of ?_
  refine readsRes_of (rs := [.tmp 4]) (vs := [no]) rfl (re_cons (re_tmp rfl) (re_nil)) rfl ?_
  exfalso; omega
 ·
  refine ed no rfl rfl (dv_bin rfl rfl (bi_neq_f hc1)) ?_
  refine E_nil ?_
  refine th_norm ?_
  refine AWp_cond (t := false) rfl nofun (fun _ => ?_)
  refine AWp_skip ?_
  refine th_norm ?_
  refine AWp_seq ?_
  refine AWp_seq ?_
  refine AWp_E rfl ?_
  refine ed (iv 0) rfl rfl (dv_assign rfl) ?_
  refine E_nil ?_
  refine th_norm ?_
  refine AWp_block ?_
  obtain ⟨I2, hI2⟩ : ∃ I : Nat → Env → AH → Prop, ∀ m_ e_ Hl, I m_ e_ Hl = (∃ (t4 : Bool) (i : Nat), m_ = a_n - i ∧ AllE [(0, sv a_a a_n a_c), (1, sv b_a b_n b_c), (4, .bool t4), (5, iv ((i : Nat) : Int)), (6, sv a_a a_n a_c), (7, iv ((a_n : Nat) : Int)), (8, sv b_a b_n b_c), (9, iv ((b_n : Nat) : Int)), (10, no)] e_ ∧ SepL H0 [] Hl ∧ (i ≤ a_n)) := ⟨_, fun _ _ _ => rfl⟩
  refine AWp_loop I2 (a_n - (0)) ?_ ?_
  ·
   rw [hI2]
   refine ⟨false, 0, rfl, (all_c rfl (all_c rfl (all_c rfl (all_c rfl (all_c rfl (all_c rfl (all_c rfl (all_c rfl (all_c rfl all_n))))))))), hS, ?_⟩
   · omega
  ·
   intro m3 _ H hl4
   rw [hI2] at hl4
   obtain ⟨t4, i, hm5, he6, hS, hi⟩ := hl4
   obtain ⟨e7, rfl⟩ := he6.ex
   refine AWp_seq ?_
   refine AWp_seq ?_
   refine AWp_E rfl ?_
   refine ed (iv ((i : Nat) : Int)) rfl rfl (dv_move rfl) ?_
   refine ed (sv a_a a_n a_c) rfl rfl (dv_move rfl) ?_
   refine ed (iv ((a_n : Nat) : Int)) rfl rfl (dv_len rfl rfl rfl rfl rfl) ?_
   rcases Decidable.em (((i : Nat) : Int) < ((a_n : Nat) : Int)) with hc8 | hc8
   ·
    refine ed yes rfl rfl (dv_bin rfl rfl (bi_lss_t hc8)) ?_
    refine E_nil ?_
    refine th_norm ?_
    refine AWp_cond (t := true) rfl (fun _ => ?_) nofun
    refine AWp_skip ?_
    refine th_norm ?_
    refine AWp_seq ?_
    refine AWp_block ?_
    refine AWp_seq ?_
    have hR := hS.pushes
    have hKb := hS.keep
    have hB := fun Hc (hc : Keep _ Hc) => hR [] Hc (.base hc)
    refine AWp_D0 rfl (by decide +kernel) fun hM => ?_
    refine wd (sv a_a a_n a_c) rfl rfl (fun _ hc => dv_move rfl) ?_
    refine wd (iv ((i : Nat) : Int)) rfl rfl (fun _ hc => dv_move rfl) ?_
    obtain ⟨x9, hx9⟩ := get_el (xs := a) (i := i) (by omega)
    have hv10 := ha_s.el hx9
    have hv10l := hv10.2
    refine wd (sp a_a (i * 1)) rfl rfl (fun _ hc => dv_indexAddr (a := sv a_a a_n a_c) (b := iv ((i : Nat) : Int)) rfl rfl (ix_sls (n := a_n) (i := i) (ha_s.1.keep (hKb.trans hc)) hx9 rfl rfl rfl (by omega))) ?_
    refine wd (sv x9.a x9.xs.length x9.c) rfl rfl (fun _ hc => dv_load rfl (ld_sls (sz := 1) (off := 0) (ha_s.1.keep (hKb.trans hc)) hx9 (fun _ => rfl) rfl rfl rfl)) ?_
    refine wd (sv b_a b_n b_c) rfl rfl (fun _ hc => dv_move rfl) ?_
    refine wd (iv ((i : Nat) : Int)) rfl rfl (fun _ hc => dv_move rfl) ?_
    obtain ⟨x11, hx11⟩ := get_el (xs := b) (i := i) (by omega)
    have hv12 := hb_s.el hx11
    have hv12l := hv12.2
    have he := getA hab hx9 hx11
    refine wd (sp b_a (i * 1)) rfl rfl (fun _ hc => dv_indexAddr (a := sv b_a b_n b_c) (b := iv ((i : Nat) : Int)) rfl rfl (ix_sls (n := b_n) (i := i) (hb_s.1.keep (hKb.trans hc)) hx11 rfl rfl rfl (by omega))) ?_
    refine wd (sv x11.a x11.xs.length x11.c) rfl rfl (fun _ hc => dv_load rfl (ld_sls (sz := 1) (off := 0) (hb_s.1.keep (hKb.trans hc)) hx11 (fun _ => rfl) rfl rfl rfl)) ?_
    refine W_call (vs := [sv x9.a x9.xs.length x9.c, sv x11.a x11.xs.length x11.c]) rfl rfl rfl rfl rfl rfl rfl (eqInt64S_ok x9.a x9.xs.length x9.c x9.xs x11.a x11.xs.length x11.c x11.xs _ ⟨(hv10.1.keep (hKb.trans hM.keep)), rfl, hv10.2⟩ ⟨(hv12.1.keep (hKb.trans hM.keep)), rfl, hv12.2⟩ (by first | assumption | omega | (simp only [*]; assumption) | (simp_all; done))) ?_
    rintro _ H ⟨rfl, hQ⟩
    have hM := hM.up hQ.keep
    refine ⟨hM.keep, ?_⟩
    refine wd no rfl rfl (fun _ hc => dv_un rfl rfl) ?_
    have hS := hR _ _ hM
    refine W_nil ?_
    refine th_norm ?_
    refine AWp_cond (t := false) rfl nofun (fun _ => ?_)
    refine AWp_skip ?_
    refine bl_norm ?_
    refine th_norm ?_
    refine AWp_E rfl ?_
    refine ed (iv ((i : Nat) : Int)) rfl rfl (dv_move rfl) ?_
    refine ed (iv ((i + 1 : Nat) : Int)) rfl rfl (dv_bin rfl rfl (bi_add (by omega))) ?_
    refine ed (iv ((i + 1 : Nat) : Int)) rfl rfl (dv_assign rfl) ?_
    refine E_nil ?_
    refine loop_next (I := I2) (a_n - (i + 1)) (by rw [hm5]; omega) ?_
    rw [hI2]
    refine ⟨t4, i + 1, rfl, (all_c rfl (all_c rfl (all_c rfl (all_c rfl (all_c rfl (all_c rfl (all_c rfl (all_c rfl (all_c rfl all_n))))))))), hS, ?_⟩
    · omega
   ·
    refine ed no rfl rfl (dv_bin rfl rfl (bi_lss_f hc8)) ?_
    refine E_nil ?_
    refine th_norm ?_
    refine AWp_cond (t := false) rfl nofun (fun _ => ?_)
    refine AWp_exit (th_exit (th_exit (bl_exit (?_))))
    refine th_norm ?_
    refine AWp_seq ?_
    refine AWp_E rfl ?_
    refine ed yes rfl rfl (dv_assign rfl) ?_
    refine E_nil ?_
    refine th_norm ?_
    refine AWp_ret (?_)
    refine ret_of ?_
    refine readsRes_of (rs := [.tmp 4]) (vs := [yes]) rfl (re_cons (re_tmp rfl) (re_nil)) rfl ?_
    refine ⟨rfl, .base hS.keep⟩
theorem eqMesh_ok (x : LM) (y : LM) (H : AH) (hx : x.ok H) (hy : y.ok H) (hd : x.d = y.d) : ACalls Tryz.prog 59 [mva x, mva y] H
  (fun r H' => r = yes ∧ SepL H [] H') := by
 refine ACalls_of Tryz.func59 rfl (Nat.le_of_ble_eq_true rfl) ?_
 obtain ⟨H0, hH0⟩ : ∃ H0, H0 = H := ⟨_, rfl⟩
 have hS : SepL H0 [] H := hH0 ▸ SepL.refl H
 subst hH0
 obtain ⟨⟨hx_ps, hx_pn, hx_pb⟩, hx_ts, hx_tn, hx_tb⟩ := id hx
 obtain ⟨⟨hy_ps, hy_pn, hy_pb⟩, hy_ts, hy_tn, hy_tb⟩ := id hy
 obtain ⟨hd1, hd2⟩ : x.ps = y.ps ∧ rxs x.ts = rxs y.ts := by simpa [LM.d] using hd
 refine AWp_seq ?_
 refine AWp_E rfl ?_
 refine S_box (l := [sv x.pa x.pn x.pc, sv x.ta x.tn x.tc]) hS rfl rfl rfl rfl rfl fun b1 H hS => ?_
 refine S_box (l := [sv y.pa y.pn y.pc, sv y.ta y.tn y.tc]) hS rfl rfl rfl rfl rfl fun b2 H hS => ?_
 refine ed no rfl rfl (dv_assign rfl) ?_
 refine E_nil ?_
 refine th_norm ?_
 refine AWp_seq ?_
 refine AWp_seq ?_
 refine AWp_E rfl ?_
 refine ed (pt b1 0) rfl rfl (dv_fieldAddr rfl rfl) ?_
 refine ed (sv x.pa x.pn x.pc) rfl rfl (dv_load rfl (ld_box (hS.box 0 rfl) rfl rfl rfl)) ?_
 refine ed (pt b2 0) rfl rfl (dv_fieldAddr rfl rfl) ?_
 refine ed (sv y.pa y.pn y.pc) rfl rfl (dv_load rfl (ld_box (hS.box 1 rfl) rfl rfl rfl)) ?_
 refine E_call (vs := [sv x.pa x.pn x.pc, sv y.pa y.pn y.pc]) rfl rfl rfl rfl rfl rfl rfl (eqVectorS_ok x.pa x.pn x.pc x.ps y.pa y.pn y.pc y.ps _ (hx.1.keep hS.keep) (hy.1.keep hS.keep) (by first | assumption | omega | (simp only [*]; assumption) | (simp_all; done))) ?_
 rintro _ H ⟨rfl, hQ⟩
 have hS := hS.up hQ.keep
 refine ed no rfl rfl (dv_un rfl rfl) ?_
 refine E_nil ?_
 refine th_norm ?_
 refine AWp_cond (t := false) rfl nofun (fun _ => ?_)
 refine AWp_skip ?_
 refine th_norm ?_
 refine AWp_seq ?_
 refine AWp_seq ?_
 refine AWp_E rfl ?_
 refine ed (pt b1 1) rfl rfl (dv_fieldAddr rfl rfl) ?_
 refine ed (sv x.ta x.tn x.tc) rfl rfl (dv_load rfl (ld_box (hS.box 0 rfl) rfl rfl rfl)) ?_
 refine ed (pt b2 1) rfl rfl (dv_fieldAddr rfl rfl) ?_
 refine ed (sv y.ta y.tn y.tc) rfl rfl (dv_load rfl (ld_box (hS.box 1 rfl) rfl rfl rfl)) ?_
 refine E_call (vs := [sv x.ta x.tn x.tc, sv y.ta y.tn y.tc]) rfl rfl rfl rfl rfl rfl rfl (eqInt64SS_ok x.ta x.tn x.tc x.ts y.ta y.tn y.tc y.ts _ (hx.2.keep hS.keep) (hy.2.keep hS.keep) (by first | assumption | omega | (simp only [*]; assumption) | (simp_all; done))) ?_
 rintro _ H ⟨rfl, hQ⟩
 have hS := hS.up hQ.keep
 refine ed no rfl rfl (dv_un rfl rfl) ?_
 refine E_nil ?_
 refine th_norm ?_
 refine AWp_cond (t := false) rfl nofun (fun _ => ?_)
 refine AWp_skip ?_
 refine th_norm ?_
 refine AWp_seq ?_
 refine AWp_E rfl ?_
 refine ed yes rfl rfl (dv_assign rfl) ?_
 refine E_nil ?_
 refine th_norm ?_
 refine AWp_ret (?_)
 refine ret_of ?_
 refine readsRes_of (rs := [.tmp 4]) (vs := [yes]) rfl (re_cons (re_tmp rfl) (re_nil)) rfl ?_
 refine ⟨rfl, .base hS.keep⟩
theorem eqBody_ok (x : LB) (y : LB) (H : AH) (hx : x.ok H) (hy : y.ok H) (hd : x.d = y.d) : ACalls Tryz.prog 18 [bva x, bva y] H
  (fun r H' => r = yes ∧ SepL H [] H') := by
 refine ACalls_of Tryz.func18 rfl (Nat.le_of_ble_eq_true rfl) ?_
 obtain ⟨H0, hH0⟩ : ∃ H0, H0 = H := ⟨_, rfl⟩
 have hS : SepL H0 [] H := hH0 ▸ SepL.refl H
 subst hH0
 obtain ⟨⟨hx_1_ps, hx_1_pn, hx_1_pb⟩, hx_1_ts, hx_1_tn, hx_1_tb⟩ := id hx.1
 obtain ⟨⟨hx_ss, hx_sn, hx_sb⟩, hx_ws, hx_wn, hx_wb⟩ := hx.2
 obtain ⟨⟨hy_1_ps, hy_1_pn, hy_1_pb⟩, hy_1_ts, hy_1_tn, hy_1_tb⟩ := id hy.1
 obtain ⟨⟨hy_ss, hy_sn, hy_sb⟩, hy_ws, hy_wn, hy_wb⟩ := hy.2
 obtain ⟨hd1, hd2, hd3, hd4, hd5, hd6⟩ : x.m.d = y.m.d ∧ x.ss = y.ss ∧ x.film = y.film ∧ x.bend = y.bend ∧ x.ws = y.ws ∧ x.fall = y.fall := by simpa [LB.d] using hd
 refine AWp_seq ?_
 refine AWp_E rfl ?_
 refine S_box (l := [sv x.m.pa x.m.pn x.m.pc, sv x.m.ta x.m.tn x.m.tc, sv x.sa x.sn x.sc, fl x.film, fl x.bend, sv x.wa x.wn x.wc, fl x.fall.x, fl x.fall.y, fl x.fall.z]) hS rfl rfl rfl rfl rfl fun b1 H hS => ?_
 refine S_box (l := [sv y.m.pa y.m.pn y.m.pc, sv y.m.ta y.m.tn y.m.tc, sv y.sa y.sn y.sc, fl y.film, fl y.bend, sv y.wa y.wn y.wc, fl y.fall.x, fl y.fall.y, fl y.fall.z]) hS rfl rfl rfl rfl rfl fun b2 H hS => ?_
 refine ed no rfl rfl (dv_assign rfl) ?_
 refine E_nil ?_
 refine th_norm ?_
 refine AWp_seq ?_
 refine AWp_seq ?_
 refine AWp_E rfl ?_
 refine ed (pt b1 0) rfl rfl (dv_fieldAddr rfl rfl) ?_
 refine ed (mva x.m) rfl rfl (dv_load rfl (ld_boxA (n := 2) (hS.box 0 rfl) rfl rfl (Nat.le_of_ble_eq_true rfl) rfl)) ?_
 refine ed (pt b2 0) rfl rfl (dv_fieldAddr rfl rfl) ?_
 refine ed (mva y.m) rfl rfl (dv_load rfl (ld_boxA (n := 2) (hS.box 1 rfl) rfl rfl (Nat.le_of_ble_eq_true rfl) rfl)) ?_
 refine E_call (vs := [mva x.m, mva y.m]) rfl rfl rfl rfl rfl rfl rfl (eqMesh_ok x.m y.m _ (hx.1.keep hS.keep) (hy.1.keep hS.keep) (by first | assumption | (rw [hd3]; done) | (rw [hd4]; done) | (simp_all; done))) ?_
 rintro _ H ⟨rfl, hQ⟩
 have hS := hS.up hQ.keep
 refine ed no rfl rfl (dv_un rfl rfl) ?_
 refine E_nil ?_
 refine th_norm ?_
 refine AWp_cond (t := false) rfl nofun (fun _ => ?_)
 refine AWp_skip ?_
 refine th_norm ?_
 refine AWp_seq ?_
 refine AWp_seq ?_
 refine AWp_E rfl ?_
 refine ed (pt b1 2) rfl rfl (dv_fieldAddr rfl rfl) ?_
 refine ed (sv x.sa x.sn x.sc) rfl rfl (dv_load rfl (ld_box (hS.box 0 rfl) rfl rfl rfl)) ?_
 refine ed (pt b2 2) rfl rfl (dv_fieldAddr rfl rfl) ?_
 refine ed (sv y.sa y.sn y.sc) rfl rfl (dv_load rfl (ld_box (hS.box 1 rfl) rfl rfl rfl)) ?_
 refine E_call (vs := [sv x.sa x.sn x.sc, sv y.sa y.sn y.sc]) rfl rfl rfl rfl rfl rfl rfl (eqSpringS_ok x.sa x.sn x.sc x.ss y.sa y.sn y.sc y.ss _ (hx.2.1.keep hS.keep) (hy.2.1.keep hS.keep) (by first | assumption | (rw [hd3]; done) | (rw [hd4]; done) | (simp_all; done))) ?_
 rintro _ H ⟨rfl, hQ⟩
 have hS := hS.up hQ.keep
 refine ed no rfl rfl (dv_un rfl rfl) ?_
 refine E_nil ?_
 refine th_norm ?_
 refine AWp_cond (t := false) rfl nofun (fun _ => ?_)
 refine AWp_skip ?_
 refine th_norm ?_
 refine AWp_seq ?_
 refine AWp_seq ?_
 refine AWp_E rfl ?_
 refine ed (pt b1 3) rfl rfl (dv_fieldAddr rfl rfl) ?_
 refine ed (fl x.film) rfl rfl (dv_load rfl (ld_box (hS.box 0 rfl) rfl rfl rfl)) ?_
 refine ed (fd (up64 x.film)) rfl rfl (dv_conv rfl (cv_up rfl rfl rfl)) ?_
 refine ed (pt b2 3) rfl rfl (dv_fieldAddr rfl rfl) ?_
 refine ed (fl y.film) rfl rfl (dv_load rfl (ld_box (hS.box 1 rfl) rfl rfl rfl)) ?_
 refine ed (fd (up64 y.film)) rfl rfl (dv_conv rfl (cv_up rfl rfl rfl)) ?_
 refine E_call (vs := [fd (up64 x.film), fd (up64 y.film)]) rfl rfl rfl rfl rfl rfl rfl (sameFloat_ok (up64 x.film) (up64 y.film) _ (by first | assumption | (rw [hd3]; done) | (rw [hd4]; done) | (simp_all; done))) ?_
 rintro _ H ⟨rfl, hQ⟩
 have hS := hS.up hQ.keep
 refine ed no rfl rfl (dv_un rfl rfl) ?_
 refine E_nil ?_
 refine th_norm ?_
 refine AWp_cond (t := false) rfl nofun (fun _ => ?_)
 refine AWp_skip ?_
 refine th_norm ?_
 refine AWp_seq ?_
 refine AWp_seq ?_
 refine AWp_E rfl ?_
 refine ed (pt b1 4) rfl rfl (dv_fieldAddr rfl rfl) ?_
 refine ed (fl x.bend) rfl rfl (dv_load rfl (ld_box (hS.box 0 rfl) rfl rfl rfl)) ?_
 refine ed (fd (up64 x.bend)) rfl rfl (dv_conv rfl (cv_up rfl rfl rfl)) ?_
 refine ed (pt b2 4) rfl rfl (dv_fieldAddr rfl rfl) ?_
 refine ed (fl y.bend) rfl rfl (dv_load rfl (ld_box (hS.box 1 rfl) rfl rfl rfl)) ?_
 refine ed (fd (up64 y.bend)) rfl rfl (dv_conv rfl (cv_up rfl rfl rfl)) ?_
 refine E_call (vs := [fd (up64 x.bend), fd (up64 y.bend)]) rfl rfl rfl rfl rfl rfl rfl (sameFloat_ok (up64 x.bend) (up64 y.bend) _ (by first | assumption | (rw [hd3]; done) | (rw [hd4]; done) | (simp_all; done))) ?_
 rintro _ H ⟨rfl, hQ⟩
 have hS := hS.up hQ.keep
 refine ed no rfl rfl (dv_un rfl rfl) ?_
 refine E_nil ?_
 refine th_norm ?_
 refine AWp_cond (t := false) rfl nofun (fun _ => ?_)
 refine AWp_skip ?_
 refine th_norm ?_
 refine AWp_seq ?_
 refine AWp_seq ?_
 refine AWp_E rfl ?_
 refine ed (pt b1 5) rfl rfl (dv_fieldAddr rfl rfl) ?_
 refine ed (sv x.wa x.wn x.wc) rfl rfl (dv_load rfl (ld_box (hS.box 0 rfl) rfl rfl rfl)) ?_
 refine ed (pt b2 5) rfl rfl (dv_fieldAddr rfl rfl) ?_
 refine ed (sv y.wa y.wn y.wc) rfl rfl (dv_load rfl (ld_box (hS.box 1 rfl) rfl rfl rfl)) ?_
 refine E_call (vs := [sv x.wa x.wn x.wc, sv y.wa y.wn y.wc]) rfl rfl rfl rfl rfl rfl rfl (eqFloat32S_ok x.wa x.wn x.wc x.ws y.wa y.wn y.wc y.ws _ (hx.2.2.keep hS.keep) (hy.2.2.keep hS.keep) (by first | assumption | (rw [hd3]; done) | (rw [hd4]; done) | (simp_all; done))) ?_
 rintro _ H ⟨rfl, hQ⟩
 have hS := hS.up hQ.keep
 refine ed no rfl rfl (dv_un rfl rfl) ?_
 refine E_nil ?_
 refine th_norm ?_
 refine AWp_cond (t := false) rfl nofun (fun _ => ?_)
 refine AWp_skip ?_
 refine th_norm ?_
 refine AWp_seq ?_
 refine AWp_seq ?_
 refine AWp_E rfl ?_
 refine ed (pt b1 6) rfl rfl (dv_fieldAddr rfl rfl) ?_
 refine ed (va x.fall) rfl rfl (dv_load rfl (ld_boxA (n := 3) (hS.box 0 rfl) rfl rfl (Nat.le_of_ble_eq_true rfl) rfl)) ?_
 refine ed (pt b2 6) rfl rfl (dv_fieldAddr rfl rfl) ?_
 refine ed (va y.fall) rfl rfl (dv_load rfl (ld_boxA (n := 3) (hS.box 1 rfl) rfl rfl (Nat.le_of_ble_eq_true rfl) rfl)) ?_
 refine E_call (vs := [va x.fall, va y.fall]) rfl rfl rfl rfl rfl rfl rfl (eqVector_ok x.fall y.fall _ (by first | assumption | (rw [hd3]; done) | (rw [hd4]; done) | (simp_all; done))) ?_
 rintro _ H ⟨rfl, hQ⟩
 have hS := hS.up hQ.keep
 refine ed no rfl rfl (dv_un rfl rfl) ?_
 refine E_nil ?_
 refine th_norm ?_
 refine AWp_cond (t := false) rfl nofun (fun _ => ?_)
 refine AWp_skip ?_
 refine th_norm ?_
 refine AWp_seq ?_
 refine AWp_E rfl ?_
 refine ed yes rfl rfl (dv_assign rfl) ?_
 refine E_nil ?_
 refine th_norm ?_
 refine AWp_ret (?_)
 refine ret_of ?_
 refine readsRes_of (rs := [.tmp 4]) (vs := [yes]) rfl (re_cons (re_tmp rfl) (re_nil)) rfl ?_
 refine ⟨rfl, .base hS.keep⟩
theorem markMesh_ok (m : LM) (k : Int) (Hb H : AH) (hmn : m.ps.length = m.pn ∧ m.ts.length = m.tn) (hmb : m.pn ≤ 1048576 ∧ m.tn ≤ 1048576) (hmr : ∀ q ∈ m.ts, q.xs.length ≤ 1048576) (hS : SepL Hb [sl encV 41 3 m.pa m.pc m.ps, sl encR 53 1 m.ta m.tc m.ts, rowsE 2 m.ts] H) (hk0 : 0 ≤ k ∧ k ≤ 4194304) : ACalls Tryz.prog 62 [mva m, iv k] H
  (fun r H' => ∃ (y1_ : List V3), ∃ (y2_ : List Row), ∃ (v_ : Int), y1_ = markV k m.pn ∧ y2_ = markR (k + 3 * (m.pn : Int)) m.ts ∧ y1_.length = m.pn ∧ y2_.length = m.tn ∧ rsum y2_ = rsum m.ts ∧ (∀ q ∈ y2_, q.xs.length ≤ 1048576) ∧ k + 3 * (m.pn : Int) + (rsum m.ts : Int) = v_ ∧ r = iv v_ ∧ SepL Hb [sl encV 41 3 m.pa m.pc y1_, sl encR 53 1 m.ta m.tc y2_, rowsE 2 y2_] H') := by
 refine ACalls_of Tryz.func62 rfl (Nat.le_of_ble_eq_true rfl) ?_
 refine AWp_seq ?_
 refine AWp_E rfl ?_
 refine S_box (l := [sv m.pa m.pn m.pc, sv m.ta m.tn m.tc]) hS rfl rfl rfl rfl rfl fun b1 H hS => ?_
 refine ed (iv 0) rfl rfl (dv_assign rfl) ?_
 refine E_nil ?_
 refine th_norm ?_
 refine AWp_seq ?_
 refine AWp_E rfl ?_
 refine ed (pt b1 0) rfl rfl (dv_fieldAddr rfl rfl) ?_
 refine ed (sv m.pa m.pn m.pc) rfl rfl (dv_load rfl (ld_box (hS.box 3 rfl) rfl rfl rfl)) ?_
 refine ed (iv k) rfl rfl (dv_move rfl) ?_
 obtain ⟨Hy, hKy, _, hN, hQ⟩ := hS.split [0] rfl
 have hY := hQ [] _ (SepL.refl Hy)
 refine E_call (vs := [sv m.pa m.pn m.pc, iv k]) rfl rfl rfl rfl rfl rfl rfl (markVectorS_ok m.pa m.pn m.pc m.ps k _ _ hmn.1 (by omega) hN (by first | assumption | omega | (simp only [*]; assumption) | (simp_all; done))) ?_
 rintro _ H ⟨y2, v3, h4, h5, rfl, rfl, hP⟩
 have hlh4 := congrArg List.length h4
 have hS : SepL _ [sl encR 53 1 m.ta m.tc m.ts, rowsE 2 m.ts, box b1 [sv m.pa m.pn m.pc, sv m.ta m.tn m.tc] 39, sl encV 41 3 m.pa m.pc y2] H := hQ _ _ hP
 refine ed (iv (k + 3 * (m.pn : Int))) rfl rfl (dv_assign rfl) ?_
 refine E_nil ?_
 refine th_norm ?_
 refine AWp_seq ?_
 refine AWp_E rfl ?_
 refine ed (pt b1 1) rfl rfl (dv_fieldAddr rfl rfl) ?_
 refine ed (sv m.ta m.tn m.tc) rfl rfl (dv_load rfl (ld_box (hS.box 2 rfl) rfl rfl rfl)) ?_
 refine ed (iv (k + 3 * (m.pn : Int))) rfl rfl (dv_move rfl) ?_
 obtain ⟨Hy, hKy, _, hN, hQ⟩ := hS.split [0, 1] rfl
 have hY := hQ [] _ (SepL.refl Hy)
 refine E_call (vs := [sv m.ta m.tn m.tc, iv (k + 3 * (m.pn : Int))]) rfl rfl rfl rfl rfl rfl rfl (markInt64SS_ok m.ta m.tn m.tc m.ts (k + 3 * (m.pn : Int)) _ _ hmn.2 (by omega) hmr hN (by first | assumption | omega | (simp only [*]; assumption) | (simp_all; done))) ?_
 rintro _ H ⟨y6, v7, h8, h9, rfl, rfl, hP⟩
 have hlh8 := congrArg List.length h8
 have hS : SepL _ [box b1 [sv m.pa m.pn m.pc, sv m.ta m.tn m.tc] 39, sl encV 41 3 m.pa m.pc y2, sl encR 53 1 m.ta m.tc y6, rowsE 2 y6] H := hQ _ _ hP
 refine ed (iv ((k + 3 * (m.pn : Int)) + (rsum m.ts : Int))) rfl rfl (dv_assign rfl) ?_
 refine E_nil ?_
 refine th_norm ?_
 refine AWp_seq ?_
 refine AWp_E rfl ?_
 refine ed (iv ((k + 3 * (m.pn : Int)) + (rsum m.ts : Int))) rfl rfl (dv_move rfl) ?_
 refine ed (iv ((k + 3 * (m.pn : Int)) + (rsum m.ts : Int))) rfl rfl (dv_assign rfl) ?_
 refine E_nil ?_
 refine th_norm ?_
 refine AWp_ret (?_)
 refine ret_of ?_
 refine readsRes_of (rs := [.tmp 4]) (vs := [iv ((k + 3 * (m.pn : Int)) + (rsum m.ts : Int))]) rfl (re_cons (re_tmp rfl) (re_nil)) rfl ?_
 refine ⟨y2, y6, ((k + 3 * (m.pn : Int)) + (rsum m.ts : Int)), ?_, ?_, ?_, ?_, ?_, ?_, ?_, rfl, hS.pick [1, 2, 3] rfl⟩
 · first | assumption | omega
 · first | assumption | omega
 · first | assumption | omega
 · first | assumption | omega
 · rw [h8, rsum_mark]
 · rw [h8]; exact markR_lens _ hmr
 · first | assumption | omega
theorem markBody_ok (b : LB) (k : Int) (Hb H : AH) (hbn : b.m.ps.length = b.m.pn ∧ b.m.ts.length = b.m.tn) (hbb : b.m.pn ≤ 1048576 ∧ b.m.tn ≤ 1048576) (hbr : ∀ q ∈ b.m.ts, q.xs.length ≤ 1048576) (hbn2 : b.ss.length = b.sn ∧ b.ws.length = b.wn) (hbb2 : b.sn ≤ 1048576 ∧ b.wn ≤ 1048576) (hS : SepL Hb [sl encV 41 3 b.m.pa b.m.pc b.m.ps, sl encR 53 1 b.m.ta b.m.tc b.m.ts, rowsE 2 b.m.ts, sl encS 116 4 b.sa b.sc b.ss, sl encF 27 1 b.wa b.wc b.ws] H) (hk0 : 0 ≤ k ∧ k ≤ 4) : ACalls Tryz.prog 20 [bva b, iv k] H
  (fun r H' => ∃ (y1_ : List V3), ∃ (y2_ : List Row), ∃ (y3_ : List Spr), ∃ (y4_ : List Nat), ∃ (v_ : Int), y1_ = markV k b.m.pn ∧ y2_ = markR (k + 3 * (b.m.pn : Int)) b.m.ts ∧ y1_.length = b.m.pn ∧ y2_.length = b.m.tn ∧ rsum y2_ = rsum b.m.ts ∧ (∀ q ∈ y2_, q.xs.length ≤ 1048576) ∧ (0 ≤ v_ ∧ v_ ≤ 2199023255552) ∧ y1_.length = b.m.pn ∧ y2_.length = b.m.tn ∧ y3_.length = b.sn ∧ y4_.length = b.wn ∧ rsum y2_ = rsum b.m.ts ∧ (∀ q ∈ y2_, q.xs.length ≤ 1048576) ∧ y3_ = markS (k + 3 * (b.m.pn : Int) + (rsum b.m.ts : Int)) b.sn ∧ y4_ = markF (k + 3 * (b.m.pn : Int) + (rsum b.m.ts : Int) + 4 * (b.sn : Int)) b.wn ∧ k + 3 * (b.m.pn : Int) + (rsum b.m.ts : Int) + 4 * (b.sn : Int) + (b.wn : Int) = v_ ∧ r = iv v_ ∧ SepL Hb [sl encV 41 3 b.m.pa b.m.pc y1_, sl encR 53 1 b.m.ta b.m.tc y2_, rowsE 2 y2_, sl encS 116 4 b.sa b.sc y3_, sl encF 27 1 b.wa b.wc y4_] H') := by
 refine ACalls_of Tryz.func20 rfl (Nat.le_of_ble_eq_true rfl) ?_
 have hrs := rsum_le hbr
 refine AWp_seq ?_
 refine AWp_E rfl ?_
 refine S_box (l := [sv b.m.pa b.m.pn b.m.pc, sv b.m.ta b.m.tn b.m.tc, sv b.sa b.sn b.sc, fl b.film, fl b.bend, sv b.wa b.wn b.wc, fl b.fall.x, fl b.fall.y, fl b.fall.z]) hS rfl rfl rfl rfl rfl fun b1 H hS => ?_
 refine ed (iv 0) rfl rfl (dv_assign rfl) ?_
 refine E_nil ?_
 refine th_norm ?_
 refine AWp_seq ?_
 refine AWp_E rfl ?_
 refine ed (pt b1 0) rfl rfl (dv_fieldAddr rfl rfl) ?_
 refine ed (mva b.m) rfl rfl (dv_load rfl (ld_boxA (n := 2) (hS.box 5 rfl) rfl rfl (Nat.le_of_ble_eq_true rfl) rfl)) ?_
 refine ed (iv k) rfl rfl (dv_move rfl) ?_
 obtain ⟨Hy, hKy, _, hN, hQ⟩ := hS.split [0, 1, 2] rfl
 have hY := hQ [] _ (SepL.refl Hy)
 refine E_call (vs := [mva b.m, iv k]) rfl rfl rfl rfl rfl rfl rfl (markMesh_ok b.m k _ _ ⟨hbn.1, hbn.2⟩ (by omega) hbr hN (by first | assumption | omega | (simp only [*]; assumption) | (simp_all; done))) ?_
 rintro _ H ⟨y2, y3, v4, h5, h6, h7, h8, h9, h10, rfl, rfl, hP⟩
 have hlh5 := congrArg List.length h5
 have hlh6 := congrArg List.length h6
 have hS : SepL _ [sl encS 116 4 b.sa b.sc b.ss, sl encF 27 1 b.wa b.wc b.ws, box b1 [sv b.m.pa b.m.pn b.m.pc, sv b.m.ta b.m.tn b.m.tc, sv b.sa b.sn b.sc, fl b.film, fl b.bend, sv b.wa b.wn b.wc, fl b.fall.x, fl b.fall.y, fl b.fall.z] 43, sl encV 41 3 b.m.pa b.m.pc y2, sl encR 53 1 b.m.ta b.m.tc y3, rowsE 2 y3] H := hQ _ _ hP
 refine ed (iv (k + 3 * (b.m.pn : Int) + (rsum b.m.ts : Int))) rfl rfl (dv_assign rfl) ?_
 refine E_nil ?_
 refine th_norm ?_
 refine AWp_seq ?_
 refine AWp_E rfl ?_
 refine ed (pt b1 2) rfl rfl (dv_fieldAddr rfl rfl) ?_
 refine ed (sv b.sa b.sn b.sc) rfl rfl (dv_load rfl (ld_box (hS.box 2 rfl) rfl rfl rfl)) ?_
 refine ed (iv (k + 3 * (b.m.pn : Int) + (rsum b.m.ts : Int))) rfl rfl (dv_move rfl) ?_
 obtain ⟨Hy, hKy, _, hN, hQ⟩ := hS.split [0] rfl
 have hY := hQ [] _ (SepL.refl Hy)
 refine E_call (vs := [sv b.sa b.sn b.sc, iv (k + 3 * (b.m.pn : Int) + (rsum b.m.ts : Int))]) rfl rfl rfl rfl rfl rfl rfl (markSpringS_ok b.sa b.sn b.sc b.ss (k + 3 * (b.m.pn : Int) + (rsum b.m.ts : Int)) _ _ hbn2.1 (by omega) hN (by first | assumption | omega | (simp only [*]; assumption) | (simp_all; done))) ?_
 rintro _ H ⟨y11, v12, h13, h14, h15, rfl, hP⟩
 have hlh13 := congrArg List.length h13
 have hS : SepL _ [sl encF 27 1 b.wa b.wc b.ws, box b1 [sv b.m.pa b.m.pn b.m.pc, sv b.m.ta b.m.tn b.m.tc, sv b.sa b.sn b.sc, fl b.film, fl b.bend, sv b.wa b.wn b.wc, fl b.fall.x, fl b.fall.y, fl b.fall.z] 43, sl encV 41 3 b.m.pa b.m.pc y2, sl encR 53 1 b.m.ta b.m.tc y3, rowsE 2 y3, sl encS 116 4 b.sa b.sc y11] H := hQ _ _ hP
 refine ed (iv v12) rfl rfl (dv_assign rfl) ?_
 refine E_nil ?_
 refine th_norm ?_
 refine AWp_seq ?_
 refine AWp_E rfl ?_
 refine ed (pt b1 5) rfl rfl (dv_fieldAddr rfl rfl) ?_
 refine ed (sv b.wa b.wn b.wc) rfl rfl (dv_load rfl (ld_box (hS.box 1 rfl) rfl rfl rfl)) ?_
 refine ed (iv v12) rfl rfl (dv_move rfl) ?_
 obtain ⟨Hy, hKy, _, hN, hQ⟩ := hS.split [0] rfl
 have hY := hQ [] _ (SepL.refl Hy)
 refine E_call (vs := [sv b.wa b.wn b.wc, iv v12]) rfl rfl rfl rfl rfl rfl rfl (markFloat32S_ok b.wa b.wn b.wc b.ws v12 _ _ hbn2.2 (by omega) hN (by first | assumption | omega | (simp only [*]; assumption) | (simp_all; done))) ?_
 rintro _ H ⟨y16, v17, h18, h19, rfl, rfl, hP⟩
 have hlh18 := congrArg List.length h18
 have hS : SepL _ [box b1 [sv b.m.pa b.m.pn b.m.pc, sv b.m.ta b.m.tn b.m.tc, sv b.sa b.sn b.sc, fl b.film, fl b.bend, sv b.wa b.wn b.wc, fl b.fall.x, fl b.fall.y, fl b.fall.z] 43, sl encV 41 3 b.m.pa b.m.pc y2, sl encR 53 1 b.m.ta b.m.tc y3, rowsE 2 y3, sl encS 116 4 b.sa b.sc y11, sl encF 27 1 b.wa b.wc y16] H := hQ _ _ hP
 refine ed (iv (v12 + (b.wn : Int))) rfl rfl (dv_assign rfl) ?_
 refine E_nil ?_
 refine th_norm ?_
 refine AWp_seq ?_
 refine AWp_E rfl ?_
 refine ed (iv (v12 + (b.wn : Int))) rfl rfl (dv_move rfl) ?_
 refine ed (iv (v12 + (b.wn : Int))) rfl rfl (dv_assign rfl) ?_
 refine E_nil ?_
 refine th_norm ?_
 refine AWp_ret (?_)
 refine ret_of ?_
 refine readsRes_of (rs := [.tmp 4]) (vs := [iv (v12 + (b.wn : Int))]) rfl (re_cons (re_tmp rfl) (re_nil)) rfl ?_
 refine ⟨y2, y3, y11, y16, (v12 + (b.wn : Int)), ?_, ?_, ?_, ?_, ?_, ?_, ?_, ?_, ?_, ?_, ?_, ?_, ?_, ?_, ?_, ?_, rfl, hS.pick [1, 2, 3, 4, 5] rfl⟩
 · first | assumption | omega | (simp_all; done) | (subst_vars; assumption) | (subst_vars; rfl)
 · first | assumption | omega | (simp_all; done) | (subst_vars; assumption) | (subst_vars; rfl)
 · first | assumption | omega | (simp_all; done) | (subst_vars; assumption) | (subst_vars; rfl)
 · first | assumption | omega | (simp_all; done) | (subst_vars; assumption) | (subst_vars; rfl)
 · first | assumption | omega | (simp_all; done) | (subst_vars; assumption) | (subst_vars; rfl)
 · first | assumption | omega | (simp_all; done) | (subst_vars; assumption) | (subst_vars; rfl)
 · first | assumption | omega | (simp_all; done) | (subst_vars; assumption) | (subst_vars; rfl)
 · first | assumption | omega | (simp_all; done) | (subst_vars; assumption) | (subst_vars; rfl)
 · first | assumption | omega | (simp_all; done) | (subst_vars; assumption) | (subst_vars; rfl)
 · first | assumption | omega | (simp_all; done) | (subst_vars; assumption) | (subst_vars; rfl)
 · first | assumption | omega | (simp_all; done) | (subst_vars; assumption) | (subst_vars; rfl)
 · first | assumption | omega | (simp_all; done) | (subst_vars; assumption) | (subst_vars; rfl)
 · first | assumption | omega | (simp_all; done) | (subst_vars; assumption) | (subst_vars; rfl)
 · first | assumption | omega | (simp_all; done) | (subst_vars; assumption) | (subst_vars; rfl)
 · first | assumption | omega | (simp_all; done) | (subst_vars; assumption) | (subst_vars; rfl)
 · first | assumption | omega | (simp_all; done) | (subst_vars; assumption) | (subst_vars; rfl)
end Go.Ab

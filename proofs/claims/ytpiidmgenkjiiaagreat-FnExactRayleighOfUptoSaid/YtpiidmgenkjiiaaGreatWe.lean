/- Walks through functions of the program: what each computes, told over that view of memory; each with the conditions that it tells. -/
import Derived.Test.YtpiidmgenkjiiaaGreatProg
import Derived.Test.YtpiidmgenkjiiaaGreatWc
import Derived.Test.YtpiidmgenkjiiaaGreatWd
set_option maxRecDepth 100000
set_option maxHeartbeats 4000000
namespace Go.Ab
open Go.Proofs
theorem pullBy_ok (d : V3) (s : Spr) (H : AH)  : ACalls Tryz.prog 134 [va d, .agg #[iv s.A, iv s.B, fl s.Long, fl s.Stiff]] H
  (fun r H' => ∃ (v_ : Nat), pullD d s = v_ ∧ r = fl v_ ∧ SepL H [] H') := by
 refine ACalls_of Tryz.func134 rfl (Nat.le_of_ble_eq_true rfl) ?_
 obtain ⟨H0, hH0⟩ : ∃ H0, H0 = H := ⟨_, rfl⟩
 have hS : SepL H0 [] H := hH0 ▸ SepL.refl H
 subst hH0
 refine AWp_seq ?_
 refine AWp_E rfl ?_
 refine S_box (l := [fl d.x, fl d.y, fl d.z]) hS rfl rfl rfl rfl rfl fun b1 H hS => ?_
 refine S_box (l := [iv s.A, iv s.B, fl s.Long, fl s.Stiff]) hS rfl rfl rfl rfl rfl fun b2 H hS => ?_
 refine ed (fl 0) rfl rfl (dv_assign rfl) ?_
 refine E_nil ?_
 refine th_norm ?_
 refine AWp_seq ?_
 refine AWp_E rfl ?_
 refine ed (va d) rfl rfl (dv_load rfl (ld_boxA (n := 3) (hS.box 0 rfl) rfl rfl (Nat.le_of_ble_eq_true rfl) rfl)) ?_
 refine E_call (vs := [va d]) rfl rfl rfl rfl rfl rfl rfl (LongOf_ok d _) ?_
 rintro _ H ⟨v3, rfl, rfl, hQ⟩
 have hS := hS.up hQ.keep
 refine ed (fl (vlong d)) rfl rfl (dv_assign rfl) ?_
 refine E_nil ?_
 refine th_norm ?_
 refine AWp_seq ?_
 refine AWp_seq ?_
 refine AWp_E rfl ?_
 refine ed (fl (vlong d)) rfl rfl (dv_move rfl) ?_
 rcases Bool.eq_false_or_eq_true (fgt .f32 (vlong d) 0) with hc4 | hc4
 ·
  refine ed yes rfl rfl (dv_bin rfl rfl (isB bf_gtr hc4)) ?_
  refine ed no rfl rfl (dv_un rfl rfl) ?_
  refine E_nil ?_
  refine th_norm ?_
  refine AWp_cond (t := false) rfl nofun (fun _ => ?_)
  refine AWp_skip ?_
  refine th_norm ?_
  refine AWp_seq ?_
  refine AWp_E rfl ?_
  refine ed (pt b2 3) rfl rfl (dv_fieldAddr rfl rfl) ?_
  refine ed (fl s.Stiff) rfl rfl (dv_load rfl (ld_box (hS.box 1 rfl) rfl rfl rfl)) ?_
  refine ed (fl (vlong d)) rfl rfl (dv_move rfl) ?_
  refine ed (pt b2 2) rfl rfl (dv_fieldAddr rfl rfl) ?_
  refine ed (fl s.Long) rfl rfl (dv_load rfl (ld_box (hS.box 1 rfl) rfl rfl rfl)) ?_
  refine ed (fl (fop .sub .f32 (vlong d) s.Long)) rfl rfl (dv_bin rfl rfl rfl) ?_
  refine ed (fl (fop .mul .f32 s.Stiff (fop .sub .f32 (vlong d) s.Long))) rfl rfl (dv_bin rfl rfl rfl) ?_
  refine ed (fl (vlong d)) rfl rfl (dv_move rfl) ?_
  refine ed (fl (fop .div .f32 (fop .mul .f32 s.Stiff (fop .sub .f32 (vlong d) s.Long)) (vlong d))) rfl rfl (dv_bin rfl rfl rfl) ?_
  refine ed (fl (fop .div .f32 (fop .mul .f32 s.Stiff (fop .sub .f32 (vlong d) s.Long)) (vlong d))) rfl rfl (dv_assign rfl) ?_
  refine E_nil ?_
  refine th_norm ?_
  refine AWp_ret (?_)
  refine ret_of ?_
  refine readsRes_of (rs := [.tmp 4]) (vs := [fl (fop .div .f32 (fop .mul .f32 s.Stiff (fop .sub .f32 (vlong d) s.Long)) (vlong d))]) rfl (re_cons (re_tmp rfl) (re_nil)) rfl ?_
  refine ⟨(fop .div .f32 (fop .mul .f32 s.Stiff (fop .sub .f32 (vlong d) s.Long)) (vlong d)), ?_, rfl, .base hS.keep⟩
  · simp [pullD, gain, hc4]
 ·
  refine ed no rfl rfl (dv_bin rfl rfl (isB bf_gtr hc4)) ?_
  refine ed yes rfl rfl (dv_un rfl rfl) ?_
  refine E_nil ?_
  refine th_norm ?_
  refine AWp_cond (t := true) rfl (fun _ => ?_) nofun
  refine AWp_seq ?_
  refine AWp_E rfl ?_
  refine ed (fl 0) rfl rfl (dv_assign rfl) ?_
  refine E_nil ?_
  refine th_norm ?_
  refine AWp_ret (th_ret (?_))
  refine ret_of ?_
  refine readsRes_of (rs := [.tmp 4]) (vs := [fl 0]) rfl (re_cons (re_tmp rfl) (re_nil)) rfl ?_
  refine ⟨0, ?_, rfl, .base hS.keep⟩
  · simp [pullD, gain, hc4]
theorem alongSpring_ok (b : LB) (s : Spr) (H : AH) (hb : b.ok H) (hs0 : sprP b.m.ps.length s) : ACalls Tryz.prog 125 [bva b, .agg #[iv s.A, iv s.B, fl s.Long, fl s.Stiff]] H
  (fun r H' => ∃ (v_ : V3), alongD b.m.ps s = v_ ∧ r = va v_ ∧ SepL H [] H') := by
 refine ACalls_of Tryz.func125 rfl (Nat.le_of_ble_eq_true rfl) ?_
 obtain ⟨H0, hH0⟩ : ∃ H0, H0 = H := ⟨_, rfl⟩
 have hS : SepL H0 [] H := hH0 ▸ SepL.refl H
 subst hH0
 obtain ⟨⟨hb_1_ps, hb_1_pn, hb_1_pb⟩, hb_1_ts, hb_1_tn, hb_1_tb⟩ := id hb.1
 obtain ⟨⟨hb_ss, hb_sn, hb_sb⟩, hb_ws, hb_wn, hb_wb⟩ := hb.2
 have hsp := hs0
 unfold sprP inP at hsp
 refine AWp_seq ?_
 refine AWp_E rfl ?_
 refine S_box (l := [sv b.m.pa b.m.pn b.m.pc, sv b.m.ta b.m.tn b.m.tc, sv b.sa b.sn b.sc, fl b.film, fl b.bend, sv b.wa b.wn b.wc, fl b.fall.x, fl b.fall.y, fl b.fall.z]) hS rfl rfl rfl rfl rfl fun b1 H hS => ?_
 refine S_box (l := [iv s.A, iv s.B, fl s.Long, fl s.Stiff]) hS rfl rfl rfl rfl rfl fun b2 H hS => ?_
 refine S_box (l := [fl 0, fl 0, fl 0]) hS rfl rfl rfl rfl rfl fun b3 H hS => ?_
 refine E_nil ?_
 refine th_norm ?_
 refine AWp_seq ?_
 have hR := hS.pushes
 have hKb := hS.keep
 have hB := fun Hc (hc : Keep _ Hc) => hR [] Hc (.base hc)
 refine AWp_D0 rfl (by decide +kernel) fun hM => ?_
 refine wd (pt b1 0) rfl rfl (fun _ hc => dv_fieldAddr rfl rfl) ?_
 refine wd (pt b1 0) rfl rfl (fun _ hc => dv_fieldAddr rfl rfl) ?_
 refine wd (sv b.m.pa b.m.pn b.m.pc) rfl rfl (fun _ hc => dv_load rfl (ld_box ((hB _ hc).box 0 rfl) rfl rfl rfl)) ?_
 refine wd (pt b2 1) rfl rfl (fun _ hc => dv_fieldAddr rfl rfl) ?_
 refine wd (iv s.B) rfl rfl (fun _ hc => dv_load rfl (ld_box ((hB _ hc).box 1 rfl) rfl rfl rfl)) ?_
 obtain ⟨x4, hx4⟩ := get_el (xs := b.m.ps) (i := (s.B).toNat) (by omega)
 refine wd (sp b.m.pa (((s.B).toNat) * 3)) rfl rfl (fun _ hc => dv_indexAddr (a := sv b.m.pa b.m.pn b.m.pc) (b := iv s.B) rfl rfl (ix_sls (n := b.m.pn) (i := ((s.B).toNat)) (hb_1_ps.keep (hKb.trans hc)) hx4 rfl rfl (by omega) (by omega))) ?_
 refine wd (va x4) rfl rfl (fun _ hc => dv_load rfl (ld_slsA (sz := 3) (m := 3) (ys := [fl x4.x, fl x4.y, fl x4.z]) (off := 0) (hb_1_ps.keep (hKb.trans hc)) hx4 (fun _ => rfl) rfl rfl (Nat.le_of_ble_eq_true rfl) rfl)) ?_
 refine wd (pt b1 0) rfl rfl (fun _ hc => dv_fieldAddr rfl rfl) ?_
 refine wd (pt b1 0) rfl rfl (fun _ hc => dv_fieldAddr rfl rfl) ?_
 refine wd (sv b.m.pa b.m.pn b.m.pc) rfl rfl (fun _ hc => dv_load rfl (ld_box ((hB _ hc).box 0 rfl) rfl rfl rfl)) ?_
 refine wd (pt b2 0) rfl rfl (fun _ hc => dv_fieldAddr rfl rfl) ?_
 refine wd (iv s.A) rfl rfl (fun _ hc => dv_load rfl (ld_box ((hB _ hc).box 1 rfl) rfl rfl rfl)) ?_
 obtain ⟨x5, hx5⟩ := get_el (xs := b.m.ps) (i := (s.A).toNat) (by omega)
 refine wd (sp b.m.pa (((s.A).toNat) * 3)) rfl rfl (fun _ hc => dv_indexAddr (a := sv b.m.pa b.m.pn b.m.pc) (b := iv s.A) rfl rfl (ix_sls (n := b.m.pn) (i := ((s.A).toNat)) (hb_1_ps.keep (hKb.trans hc)) hx5 rfl rfl (by omega) (by omega))) ?_
 refine wd (va x5) rfl rfl (fun _ hc => dv_load rfl (ld_slsA (sz := 3) (m := 3) (ys := [fl x5.x, fl x5.y, fl x5.z]) (off := 0) (hb_1_ps.keep (hKb.trans hc)) hx5 (fun _ => rfl) rfl rfl (Nat.le_of_ble_eq_true rfl) rfl)) ?_
 refine W_call (vs := [va x4, va x5]) rfl rfl rfl rfl rfl rfl rfl (LessVectors_ok x4 x5 _) ?_
 rintro _ H ⟨v6, rfl, rfl, hQ⟩
 have hM := hM.up hQ.keep
 refine ⟨hM.keep, ?_⟩
 have hS := hR _ _ hM
 refine D_store (i := 2) (yv := .agg #[fl ((vsub x4 x5).x), fl ((vsub x4 x5).y), fl ((vsub x4 x5).z)]) (l' := [fl ((vsub x4 x5).x), fl ((vsub x4 x5).y), fl ((vsub x4 x5).z)]) hS rfl rfl rfl rfl rfl rfl rfl rfl rfl rfl rfl rfl rfl fun H hS => ?_
 refine th_norm ?_
 refine AWp_ret (?_)
 refine ret_of ?_
 refine readsRes_of (rs := [.cell 4 41]) (vs := [.agg #[fl ((vsub x4 x5).x), fl ((vsub x4 x5).y), fl ((vsub x4 x5).z)]]) rfl (re_cons (re_cell (p := pt b3 0) rfl (ld_boxA (n := 3) (hS.box 2 rfl) rfl rfl (Nat.le_of_ble_eq_true rfl) rfl)) (re_nil)) rfl ?_
 refine ⟨(vsub x4 x5), ?_, rfl, .base hS.keep⟩
 · simp only [alongD, at3_of hx4, at3_of hx5] <;> first | assumption | omega
theorem normalOf_ok (m : LM) (t_a : Option Addr) (t_n t_c : Nat) (t : List (Int)) (H : AH) (hm : m.ok H) (ht : VS H encI t_a t_n t) (ht0 : triP t m.ps.length) : ACalls Tryz.prog 126 [mva m, sv t_a t_n t_c] H
  (fun r H' => ∃ (v_ : V3), normalD m.ps t = v_ ∧ r = va v_ ∧ SepL H [] H') := by
 refine ACalls_of Tryz.func126 rfl (Nat.le_of_ble_eq_true rfl) ?_
 obtain ⟨H0, hH0⟩ : ∃ H0, H0 = H := ⟨_, rfl⟩
 have hS : SepL H0 [] H := hH0 ▸ SepL.refl H
 subst hH0
 obtain ⟨⟨hm_ps, hm_pn, hm_pb⟩, hm_ts, hm_tn, hm_tb⟩ := id hm
 obtain ⟨ht_s, ht_n, ht_b⟩ := id ht
 have hl3 := ht0.1
 refine AWp_seq ?_
 refine AWp_E rfl ?_
 refine S_box (l := [sv m.pa m.pn m.pc, sv m.ta m.tn m.tc]) hS rfl rfl rfl rfl rfl fun b1 H hS => ?_
 refine S_box (l := [fl 0, fl 0, fl 0]) hS rfl rfl rfl rfl rfl fun b2 H hS => ?_
 refine E_nil ?_
 refine th_norm ?_
 refine AWp_seq ?_
 have hR := hS.pushes
 have hKb := hS.keep
 have hB := fun Hc (hc : Keep _ Hc) => hR [] Hc (.base hc)
 refine AWp_D0 rfl (by decide +kernel) fun hM => ?_
 refine wd (pt b1 0) rfl rfl (fun _ hc => dv_fieldAddr rfl rfl) ?_
 refine wd (sv m.pa m.pn m.pc) rfl rfl (fun _ hc => dv_load rfl (ld_box ((hB _ hc).box 0 rfl) rfl rfl rfl)) ?_
 refine wd (sv t_a t_n t_c) rfl rfl (fun _ hc => dv_move rfl) ?_
 obtain ⟨x3, hx3⟩ := get_el (xs := t) (i := 0) (by omega)
 have ht4 := triP_get ht0 hx3
 unfold inP at ht4
 refine wd (sp t_a (0 * 1)) rfl rfl (fun _ hc => dv_indexAddr (a := sv t_a t_n t_c) (b := iv 0) rfl rfl (ix_sls (n := t_n) (i := 0) (ht_s.keep (hKb.trans hc)) hx3 rfl rfl rfl (by omega))) ?_
 refine wd (iv x3) rfl rfl (fun _ hc => dv_load rfl (ld_sls (sz := 1) (off := 0) (ht_s.keep (hKb.trans hc)) hx3 (fun _ => rfl) rfl rfl rfl)) ?_
 obtain ⟨x5, hx5⟩ := get_el (xs := m.ps) (i := (x3).toNat) (by omega)
 refine wd (sp m.pa (((x3).toNat) * 3)) rfl rfl (fun _ hc => dv_indexAddr (a := sv m.pa m.pn m.pc) (b := iv x3) rfl rfl (ix_sls (n := m.pn) (i := ((x3).toNat)) (hm_ps.keep (hKb.trans hc)) hx5 rfl rfl (by omega) (by omega))) ?_
 refine wd (va x5) rfl rfl (fun _ hc => dv_load rfl (ld_slsA (sz := 3) (m := 3) (ys := [fl x5.x, fl x5.y, fl x5.z]) (off := 0) (hm_ps.keep (hKb.trans hc)) hx5 (fun _ => rfl) rfl rfl (Nat.le_of_ble_eq_true rfl) rfl)) ?_
 refine D_box (l := [fl 0, fl 0, fl 0]) hM rfl rfl rfl rfl rfl fun b6 H hM => ?_
 have hS := hR _ _ hM
 refine D_store (i := 2) (yv := va x5) (l' := [fl x5.x, fl x5.y, fl x5.z]) hS rfl rfl rfl rfl rfl rfl rfl rfl rfl rfl rfl rfl rfl fun H hS => ?_
 refine th_norm ?_
 refine AWp_seq ?_
 have hR := hS.pushes
 have hKb := hS.keep
 have hB := fun Hc (hc : Keep _ Hc) => hR [] Hc (.base hc)
 refine AWp_D0 rfl (by decide +kernel) fun hM => ?_
 refine wd (pt b1 0) rfl rfl (fun _ hc => dv_fieldAddr rfl rfl) ?_
 refine wd (sv m.pa m.pn m.pc) rfl rfl (fun _ hc => dv_load rfl (ld_box ((hB _ hc).box 0 rfl) rfl rfl rfl)) ?_
 refine wd (sv t_a t_n t_c) rfl rfl (fun _ hc => dv_move rfl) ?_
 obtain ⟨x7, hx7⟩ := get_el (xs := t) (i := 1) (by omega)
 have ht8 := triP_get ht0 hx7
 unfold inP at ht8
 refine wd (sp t_a (1 * 1)) rfl rfl (fun _ hc => dv_indexAddr (a := sv t_a t_n t_c) (b := iv 1) rfl rfl (ix_sls (n := t_n) (i := 1) (ht_s.keep (hKb.trans hc)) hx7 rfl rfl rfl (by omega))) ?_
 refine wd (iv x7) rfl rfl (fun _ hc => dv_load rfl (ld_sls (sz := 1) (off := 0) (ht_s.keep (hKb.trans hc)) hx7 (fun _ => rfl) rfl rfl rfl)) ?_
 obtain ⟨x9, hx9⟩ := get_el (xs := m.ps) (i := (x7).toNat) (by omega)
 refine wd (sp m.pa (((x7).toNat) * 3)) rfl rfl (fun _ hc => dv_indexAddr (a := sv m.pa m.pn m.pc) (b := iv x7) rfl rfl (ix_sls (n := m.pn) (i := ((x7).toNat)) (hm_ps.keep (hKb.trans hc)) hx9 rfl rfl (by omega) (by omega))) ?_
 refine wd (va x9) rfl rfl (fun _ hc => dv_load rfl (ld_slsA (sz := 3) (m := 3) (ys := [fl x9.x, fl x9.y, fl x9.z]) (off := 0) (hm_ps.keep (hKb.trans hc)) hx9 (fun _ => rfl) rfl rfl (Nat.le_of_ble_eq_true rfl) rfl)) ?_
 refine wd (va x5) rfl rfl (fun _ hc => dv_load rfl (ld_boxA (n := 3) ((hB _ hc).box 2 rfl) rfl rfl (Nat.le_of_ble_eq_true rfl) rfl)) ?_
 refine W_call (vs := [va x9, va x5]) rfl rfl rfl rfl rfl rfl rfl (LessVectors_ok x9 x5 _) ?_
 rintro _ H ⟨v10, rfl, rfl, hQ⟩
 have hM := hM.up hQ.keep
 refine ⟨hM.keep, ?_⟩
 refine wd (pt b1 0) rfl rfl (fun _ hc => dv_fieldAddr rfl rfl) ?_
 refine wd (sv m.pa m.pn m.pc) rfl rfl (fun _ hc => dv_load rfl (ld_box ((hB _ hc).box 0 rfl) rfl rfl rfl)) ?_
 refine wd (sv t_a t_n t_c) rfl rfl (fun _ hc => dv_move rfl) ?_
 obtain ⟨x11, hx11⟩ := get_el (xs := t) (i := 2) (by omega)
 have ht12 := triP_get ht0 hx11
 unfold inP at ht12
 refine wd (sp t_a (2 * 1)) rfl rfl (fun _ hc => dv_indexAddr (a := sv t_a t_n t_c) (b := iv 2) rfl rfl (ix_sls (n := t_n) (i := 2) (ht_s.keep (hKb.trans hc)) hx11 rfl rfl rfl (by omega))) ?_
 refine wd (iv x11) rfl rfl (fun _ hc => dv_load rfl (ld_sls (sz := 1) (off := 0) (ht_s.keep (hKb.trans hc)) hx11 (fun _ => rfl) rfl rfl rfl)) ?_
 obtain ⟨x13, hx13⟩ := get_el (xs := m.ps) (i := (x11).toNat) (by omega)
 refine wd (sp m.pa (((x11).toNat) * 3)) rfl rfl (fun _ hc => dv_indexAddr (a := sv m.pa m.pn m.pc) (b := iv x11) rfl rfl (ix_sls (n := m.pn) (i := ((x11).toNat)) (hm_ps.keep (hKb.trans hc)) hx13 rfl rfl (by omega) (by omega))) ?_
 refine wd (va x13) rfl rfl (fun _ hc => dv_load rfl (ld_slsA (sz := 3) (m := 3) (ys := [fl x13.x, fl x13.y, fl x13.z]) (off := 0) (hm_ps.keep (hKb.trans hc)) hx13 (fun _ => rfl) rfl rfl (Nat.le_of_ble_eq_true rfl) rfl)) ?_
 refine wd (va x5) rfl rfl (fun _ hc => dv_load rfl (ld_boxA (n := 3) ((hB _ hc).box 2 rfl) rfl rfl (Nat.le_of_ble_eq_true rfl) rfl)) ?_
 refine W_call (vs := [va x13, va x5]) rfl rfl rfl rfl rfl rfl rfl (LessVectors_ok x13 x5 _) ?_
 rintro _ H ⟨v14, rfl, rfl, hQ⟩
 have hM := hM.up hQ.keep
 refine ⟨hM.keep, ?_⟩
 refine W_call (vs := [.agg #[fl ((vsub x9 x5).x), fl ((vsub x9 x5).y), fl ((vsub x9 x5).z)], .agg #[fl ((vsub x13 x5).x), fl ((vsub x13 x5).y), fl ((vsub x13 x5).z)]]) rfl rfl rfl rfl rfl rfl rfl (CrossOf_ok (vsub x9 x5) (vsub x13 x5) _) ?_
 rintro _ H ⟨v15, rfl, rfl, hQ⟩
 have hM := hM.up hQ.keep
 refine ⟨hM.keep, ?_⟩
 have hS := hR _ _ hM
 refine D_store (i := 1) (yv := .agg #[fl ((vcross (vsub x9 x5) (vsub x13 x5)).x), fl ((vcross (vsub x9 x5) (vsub x13 x5)).y), fl ((vcross (vsub x9 x5) (vsub x13 x5)).z)]) (l' := [fl ((vcross (vsub x9 x5) (vsub x13 x5)).x), fl ((vcross (vsub x9 x5) (vsub x13 x5)).y), fl ((vcross (vsub x9 x5) (vsub x13 x5)).z)]) hS rfl rfl rfl rfl rfl rfl rfl rfl rfl rfl rfl rfl rfl fun H hS => ?_
 refine th_norm ?_
 refine AWp_ret (?_)
 refine ret_of ?_
 refine readsRes_of (rs := [.cell 4 41]) (vs := [.agg #[fl ((vcross (vsub x9 x5) (vsub x13 x5)).x), fl ((vcross (vsub x9 x5) (vsub x13 x5)).y), fl ((vcross (vsub x9 x5) (vsub x13 x5)).z)]]) rfl (re_cons (re_cell (p := pt b2 0) rfl (ld_boxA (n := 3) (hS.box 1 rfl) rfl rfl (Nat.le_of_ble_eq_true rfl) rfl)) (re_nil)) rfl ?_
 refine ⟨(vcross (vsub x9 x5) (vsub x13 x5)), ?_, rfl, .base hS.keep⟩
 · simp only [normalD, gD 0 hx3, at3_of hx5, gD 0 hx7, at3_of hx9, gD 0 hx11, at3_of hx13] <;> first | assumption | omega
theorem bendOf_ok (m : LM) (h_a : Option Addr) (h_n h_c : Nat) (h : List (Int)) (H : AH) (hm : m.ok H) (hh : VS H encI h_a h_n h) (hh0 : hinP m.ps.length h) : ACalls Tryz.prog 128 [mva m, sv h_a h_n h_c] H
  (fun r H' => ∃ (v_ : V3), bentD m.ps h = v_ ∧ r = va v_ ∧ SepL H [] H') := by
 refine ACalls_of Tryz.func128 rfl (Nat.le_of_ble_eq_true rfl) ?_
 obtain ⟨H0, hH0⟩ : ∃ H0, H0 = H := ⟨_, rfl⟩
 have hS : SepL H0 [] H := hH0 ▸ SepL.refl H
 subst hH0
 obtain ⟨⟨hm_ps, hm_pn, hm_pb⟩, hm_ts, hm_tn, hm_tb⟩ := id hm
 obtain ⟨hh_s, hh_n, hh_b⟩ := id hh
 have hl4 := hh0.1
 refine AWp_seq ?_
 refine AWp_E rfl ?_
 refine S_box (l := [sv m.pa m.pn m.pc, sv m.ta m.tn m.tc]) hS rfl rfl rfl rfl rfl fun b1 H hS => ?_
 refine S_box (l := [fl 0, fl 0, fl 0]) hS rfl rfl rfl rfl rfl fun b2 H hS => ?_
 refine E_nil ?_
 refine th_norm ?_
 refine AWp_seq ?_
 refine AWp_E rfl ?_
 refine ed (pt b1 0) rfl rfl (dv_fieldAddr rfl rfl) ?_
 refine ed (sv m.pa m.pn m.pc) rfl rfl (dv_load rfl (ld_box (hS.box 0 rfl) rfl rfl rfl)) ?_
 refine ed (sv m.pa m.pn m.pc) rfl rfl (dv_assign rfl) ?_
 refine E_nil ?_
 refine th_norm ?_
 refine AWp_seq ?_
 have hR := hS.pushes
 have hKb := hS.keep
 have hB := fun Hc (hc : Keep _ Hc) => hR [] Hc (.base hc)
 refine AWp_D0 rfl (by decide +kernel) fun hM => ?_
 refine wd (sv m.pa m.pn m.pc) rfl rfl (fun _ hc => dv_move rfl) ?_
 refine wd (sv h_a h_n h_c) rfl rfl (fun _ hc => dv_move rfl) ?_
 obtain ⟨x3, hx3⟩ := get_el (xs := h) (i := 2) (by omega)
 have ht4 := hinP_get hh0 hx3
 refine wd (sp h_a (2 * 1)) rfl rfl (fun _ hc => dv_indexAddr (a := sv h_a h_n h_c) (b := iv 2) rfl rfl (ix_sls (n := h_n) (i := 2) (hh_s.keep (hKb.trans hc)) hx3 rfl rfl rfl (by omega))) ?_
 refine wd (iv x3) rfl rfl (fun _ hc => dv_load rfl (ld_sls (sz := 1) (off := 0) (hh_s.keep (hKb.trans hc)) hx3 (fun _ => rfl) rfl rfl rfl)) ?_
 obtain ⟨x5, hx5⟩ := get_el (xs := m.ps) (i := (x3).toNat) (by omega)
 refine wd (sp m.pa (((x3).toNat) * 3)) rfl rfl (fun _ hc => dv_indexAddr (a := sv m.pa m.pn m.pc) (b := iv x3) rfl rfl (ix_sls (n := m.pn) (i := ((x3).toNat)) (hm_ps.keep (hKb.trans hc)) hx5 rfl rfl (by omega) (by omega))) ?_
 refine wd (va x5) rfl rfl (fun _ hc => dv_load rfl (ld_slsA (sz := 3) (m := 3) (ys := [fl x5.x, fl x5.y, fl x5.z]) (off := 0) (hm_ps.keep (hKb.trans hc)) hx5 (fun _ => rfl) rfl rfl (Nat.le_of_ble_eq_true rfl) rfl)) ?_
 refine wd (sv m.pa m.pn m.pc) rfl rfl (fun _ hc => dv_move rfl) ?_
 refine wd (sv h_a h_n h_c) rfl rfl (fun _ hc => dv_move rfl) ?_
 obtain ⟨x6, hx6⟩ := get_el (xs := h) (i := 3) (by omega)
 have ht7 := hinP_get hh0 hx6
 refine wd (sp h_a (3 * 1)) rfl rfl (fun _ hc => dv_indexAddr (a := sv h_a h_n h_c) (b := iv 3) rfl rfl (ix_sls (n := h_n) (i := 3) (hh_s.keep (hKb.trans hc)) hx6 rfl rfl rfl (by omega))) ?_
 refine wd (iv x6) rfl rfl (fun _ hc => dv_load rfl (ld_sls (sz := 1) (off := 0) (hh_s.keep (hKb.trans hc)) hx6 (fun _ => rfl) rfl rfl rfl)) ?_
 obtain ⟨x8, hx8⟩ := get_el (xs := m.ps) (i := (x6).toNat) (by omega)
 refine wd (sp m.pa (((x6).toNat) * 3)) rfl rfl (fun _ hc => dv_indexAddr (a := sv m.pa m.pn m.pc) (b := iv x6) rfl rfl (ix_sls (n := m.pn) (i := ((x6).toNat)) (hm_ps.keep (hKb.trans hc)) hx8 rfl rfl (by omega) (by omega))) ?_
 refine wd (va x8) rfl rfl (fun _ hc => dv_load rfl (ld_slsA (sz := 3) (m := 3) (ys := [fl x8.x, fl x8.y, fl x8.z]) (off := 0) (hm_ps.keep (hKb.trans hc)) hx8 (fun _ => rfl) rfl rfl (Nat.le_of_ble_eq_true rfl) rfl)) ?_
 refine W_call (vs := [va x5, va x8]) rfl rfl rfl rfl rfl rfl rfl (AddVectors_ok x5 x8 _) ?_
 rintro _ H ⟨v9, rfl, rfl, hQ⟩
 have hM := hM.up hQ.keep
 refine ⟨hM.keep, ?_⟩
 refine wd (sv m.pa m.pn m.pc) rfl rfl (fun _ hc => dv_move rfl) ?_
 refine wd (sv h_a h_n h_c) rfl rfl (fun _ hc => dv_move rfl) ?_
 obtain ⟨x10, hx10⟩ := get_el (xs := h) (i := 0) (by omega)
 have ht11 := hinP_get hh0 hx10
 refine wd (sp h_a (0 * 1)) rfl rfl (fun _ hc => dv_indexAddr (a := sv h_a h_n h_c) (b := iv 0) rfl rfl (ix_sls (n := h_n) (i := 0) (hh_s.keep (hKb.trans hc)) hx10 rfl rfl rfl (by omega))) ?_
 refine wd (iv x10) rfl rfl (fun _ hc => dv_load rfl (ld_sls (sz := 1) (off := 0) (hh_s.keep (hKb.trans hc)) hx10 (fun _ => rfl) rfl rfl rfl)) ?_
 obtain ⟨x12, hx12⟩ := get_el (xs := m.ps) (i := (x10).toNat) (by omega)
 refine wd (sp m.pa (((x10).toNat) * 3)) rfl rfl (fun _ hc => dv_indexAddr (a := sv m.pa m.pn m.pc) (b := iv x10) rfl rfl (ix_sls (n := m.pn) (i := ((x10).toNat)) (hm_ps.keep (hKb.trans hc)) hx12 rfl rfl (by omega) (by omega))) ?_
 refine wd (va x12) rfl rfl (fun _ hc => dv_load rfl (ld_slsA (sz := 3) (m := 3) (ys := [fl x12.x, fl x12.y, fl x12.z]) (off := 0) (hm_ps.keep (hKb.trans hc)) hx12 (fun _ => rfl) rfl rfl (Nat.le_of_ble_eq_true rfl) rfl)) ?_
 refine wd (sv m.pa m.pn m.pc) rfl rfl (fun _ hc => dv_move rfl) ?_
 refine wd (sv h_a h_n h_c) rfl rfl (fun _ hc => dv_move rfl) ?_
 obtain ⟨x13, hx13⟩ := get_el (xs := h) (i := 1) (by omega)
 have ht14 := hinP_get hh0 hx13
 refine wd (sp h_a (1 * 1)) rfl rfl (fun _ hc => dv_indexAddr (a := sv h_a h_n h_c) (b := iv 1) rfl rfl (ix_sls (n := h_n) (i := 1) (hh_s.keep (hKb.trans hc)) hx13 rfl rfl rfl (by omega))) ?_
 refine wd (iv x13) rfl rfl (fun _ hc => dv_load rfl (ld_sls (sz := 1) (off := 0) (hh_s.keep (hKb.trans hc)) hx13 (fun _ => rfl) rfl rfl rfl)) ?_
 obtain ⟨x15, hx15⟩ := get_el (xs := m.ps) (i := (x13).toNat) (by omega)
 refine wd (sp m.pa (((x13).toNat) * 3)) rfl rfl (fun _ hc => dv_indexAddr (a := sv m.pa m.pn m.pc) (b := iv x13) rfl rfl (ix_sls (n := m.pn) (i := ((x13).toNat)) (hm_ps.keep (hKb.trans hc)) hx15 rfl rfl (by omega) (by omega))) ?_
 refine wd (va x15) rfl rfl (fun _ hc => dv_load rfl (ld_slsA (sz := 3) (m := 3) (ys := [fl x15.x, fl x15.y, fl x15.z]) (off := 0) (hm_ps.keep (hKb.trans hc)) hx15 (fun _ => rfl) rfl rfl (Nat.le_of_ble_eq_true rfl) rfl)) ?_
 refine W_call (vs := [va x12, va x15]) rfl rfl rfl rfl rfl rfl rfl (AddVectors_ok x12 x15 _) ?_
 rintro _ H ⟨v16, rfl, rfl, hQ⟩
 have hM := hM.up hQ.keep
 refine ⟨hM.keep, ?_⟩
 refine W_call (vs := [.agg #[fl ((vadd x5 x8).x), fl ((vadd x5 x8).y), fl ((vadd x5 x8).z)], .agg #[fl ((vadd x12 x15).x), fl ((vadd x12 x15).y), fl ((vadd x12 x15).z)]]) rfl rfl rfl rfl rfl rfl rfl (LessVectors_ok (vadd x5 x8) (vadd x12 x15) _) ?_
 rintro _ H ⟨v17, rfl, rfl, hQ⟩
 have hM := hM.up hQ.keep
 refine ⟨hM.keep, ?_⟩
 have hS := hR _ _ hM
 refine D_store (i := 1) (yv := .agg #[fl ((vsub (vadd x5 x8) (vadd x12 x15)).x), fl ((vsub (vadd x5 x8) (vadd x12 x15)).y), fl ((vsub (vadd x5 x8) (vadd x12 x15)).z)]) (l' := [fl ((vsub (vadd x5 x8) (vadd x12 x15)).x), fl ((vsub (vadd x5 x8) (vadd x12 x15)).y), fl ((vsub (vadd x5 x8) (vadd x12 x15)).z)]) hS rfl rfl rfl rfl rfl rfl rfl rfl rfl rfl rfl rfl rfl fun H hS => ?_
 refine th_norm ?_
 refine AWp_ret (?_)
 refine ret_of ?_
 refine readsRes_of (rs := [.cell 4 41]) (vs := [.agg #[fl ((vsub (vadd x5 x8) (vadd x12 x15)).x), fl ((vsub (vadd x5 x8) (vadd x12 x15)).y), fl ((vsub (vadd x5 x8) (vadd x12 x15)).z)]]) rfl (re_cons (re_cell (p := pt b2 0) rfl (ld_boxA (n := 3) (hS.box 1 rfl) rfl rfl (Nat.le_of_ble_eq_true rfl) rfl)) (re_nil)) rfl ?_
 refine ⟨(vsub (vadd x5 x8) (vadd x12 x15)), ?_, rfl, .base hS.keep⟩
 · simp only [bentD, gD 0 hx3, at3_of hx5, gD 0 hx6, at3_of hx8, gD 0 hx10, at3_of hx12, gD 0 hx13, at3_of hx15] <;> first | assumption | omega
theorem copyMesh_ok (m : LM) (H : AH) (hm : m.ok H) : ACalls Tryz.prog 130 [mva m] H
  (fun r H' => ∃ (b_ : LM), b_.d = m.d ∧ (b_.ps.length = b_.pn ∧ b_.ts.length = b_.tn) ∧ (∀ q ∈ b_.ts, q.xs.length ≤ 1048576) ∧ r = mva b_ ∧ SepL H [sl encV 41 3 b_.pa b_.pc b_.ps, sl encR 53 1 b_.ta b_.tc b_.ts, rowsE 2 b_.ts] H') := by
 refine ACalls_of Tryz.func130 rfl (Nat.le_of_ble_eq_true rfl) ?_
 obtain ⟨H0, hH0⟩ : ∃ H0, H0 = H := ⟨_, rfl⟩
 have hS : SepL H0 [] H := hH0 ▸ SepL.refl H
 subst hH0
 obtain ⟨⟨hm_ps, hm_pn, hm_pb⟩, hm_ts, hm_tn, hm_tb⟩ := id hm
 refine AWp_seq ?_
 refine AWp_E rfl ?_
 refine S_box (l := [sv m.pa m.pn m.pc, sv m.ta m.tn m.tc]) hS rfl rfl rfl rfl rfl fun b1 H hS => ?_
 refine S_box (l := [sv none 0 0, sv none 0 0]) hS rfl rfl rfl rfl rfl fun b2 H hS => ?_
 refine E_nil ?_
 refine th_norm ?_
 refine AWp_seq ?_
 refine AWp_E rfl ?_
 refine S_lit (sz := 3) (enc := encV) (xs := ([] : List V3)) (n := 0) hS rfl rfl rfl rfl rfl rfl rfl rfl fun a3 H hS => ?_
 refine ed (pt b1 0) rfl rfl (dv_fieldAddr rfl rfl) ?_
 refine ed (sv m.pa m.pn m.pc) rfl rfl (dv_load rfl (ld_box (hS.box 0 rfl) rfl rfl rfl)) ?_
 refine S_append (k := 2) (bytes := 12) (enc := encV) (xs := ([] : List V3)) (ys := m.ps) hS rfl rfl rfl rfl rfl rfl rfl rfl rfl rfl (fun _ => rfl) (fun _ => rfl) rfl rfl rfl hm_pn (hm_ps.keep hS.keep) (by omega) (by omega) fun a4 c5 x6 H hx7 hn8 hS => ?_
 refine ed (.agg #[sv a4 x6.length c5, sv none 0 0]) rfl rfl (dv_buildZ (vs := [(0, sv a4 x6.length c5)]) rfl rfl rfl rfl rfl rfl) ?_
 refine S_box (l := [sv none 0 0, sv none 0 0]) hS rfl rfl rfl rfl rfl fun b9 H hS => ?_
 refine S_store (i := 3) (yv := .agg #[sv a4 x6.length c5, sv none 0 0]) (l' := [sv a4 x6.length c5, sv none 0 0]) hS rfl rfl rfl rfl rfl rfl rfl rfl rfl rfl rfl rfl fun H hS => ?_
 refine E_nil ?_
 refine th_norm ?_
 refine AWp_seq ?_
 refine AWp_seq ?_
 refine AWp_E rfl ?_
 refine ed (pt b1 1) rfl rfl (dv_fieldAddr rfl rfl) ?_
 refine ed (sv m.ta m.tn m.tc) rfl rfl (dv_load rfl (ld_box (hS.box 0 rfl) rfl rfl rfl)) ?_
 refine ed (iv ((m.tn : Nat) : Int)) rfl rfl (dv_len rfl rfl rfl rfl rfl) ?_
 refine ed (iv 0) rfl rfl (dv_move rfl) ?_
 refine E_nil ?_
 refine th_norm ?_
 refine AWp_block ?_
 have hS := hS.zero (rowE1 2)
 have hS := hS.nil encR 53 1
 obtain ⟨I10, hI10⟩ : ∃ I : Nat → Env → AH → Prop, ∀ m_ e_ Hl, I m_ e_ Hl = (∃ (i : Nat) (wa : Option Addr) (wc : Nat) (w : List (Row)), m_ = m.tn - i ∧ AllE [(0, mva m), (1, pt b1 0), (2, pt b2 0), (3, pt b9 0), (6, sv a3 0 0), (7, pt b1 0), (8, sv m.pa m.pn m.pc), (9, sv a4 x6.length c5), (10, .agg #[sv a4 x6.length c5, sv none 0 0]), (11, pt b1 1), (12, sv m.ta m.tn m.tc), (13, iv ((m.tn : Nat) : Int)), (14, iv ((i : Nat) : Int))] e_ ∧ SepL H0 [box b1 [sv m.pa m.pn m.pc, sv m.ta m.tn m.tc] 39, box b2 [sv none 0 0, sv none 0 0] 39, sl encV 41 3 a4 c5 x6, box b9 [sv a4 x6.length c5, sv wa w.length wc] 39, rowsE 2 w, sl encR 53 1 wa wc w] Hl ∧ (i ≤ m.tn) ∧ (rxs w = (rxs m.ts).take i) ∧ (∀ q ∈ w, q.xs.length ≤ 1048576)) := ⟨_, fun _ _ _ => rfl⟩
 refine AWp_loop I10 (m.tn - (0)) ?_ ?_
 ·
  rw [hI10]
  refine ⟨0, none, 0, ([] : List Row), rfl, (all_c rfl (all_c rfl (all_c rfl (all_c rfl (all_c rfl (all_c rfl (all_c rfl (all_c rfl (all_c rfl (all_c rfl (all_c rfl (all_c rfl (all_c rfl all_n))))))))))))), hS, ?_, ?_, ?_⟩
  · omega
  · rfl
  · simp
 ·
  intro m11 _ H hl12
  rw [hI10] at hl12
  obtain ⟨i, wa, wc, w, hm13, he14, hS, hi, hw, hwl⟩ := hl12
  obtain ⟨e15, rfl⟩ := he14.ex
  have hwn : w.length = i := by have h1 := congrArg List.length hw; rw [rxs, List.length_map, List.length_take, rxs, List.length_map] at h1; omega
  refine AWp_seq ?_
  refine AWp_E rfl ?_
  rcases Decidable.em (((i : Nat) : Int) < ((m.tn : Nat) : Int)) with hc16 | hc16
  ·
   refine ed yes rfl rfl (dv_bin rfl rfl (bi_lss_t hc16)) ?_
   refine E_nil ?_
   refine th_norm ?_
   refine AWp_seq ?_
   refine AWp_cond (t := true) rfl (fun _ => ?_) nofun
   refine AWp_skip ?_
   refine th_norm ?_
   refine AWp_seq ?_
   refine AWp_block ?_
   refine AWp_seq ?_
   refine AWp_E rfl ?_
   obtain ⟨x17, hx17⟩ := get_el (xs := m.ts) (i := i) (by omega)
   have hv18 := hm_ts.el hx17
   have hv18l := hv18.2
   refine ed (sp m.ta (i * 1)) rfl rfl (dv_indexAddr (a := sv m.ta m.tn m.tc) (b := iv ((i : Nat) : Int)) rfl rfl (ix_sls (n := m.tn) (i := i) (hm_ts.1.keep hS.keep) hx17 rfl rfl rfl (by omega))) ?_
   refine ed (sv x17.a x17.xs.length x17.c) rfl rfl (dv_load rfl (ld_sls (sz := 1) (off := 0) (hm_ts.1.keep hS.keep) hx17 (fun _ => rfl) rfl rfl rfl)) ?_
   refine ed (sv x17.a x17.xs.length x17.c) rfl rfl (dv_assign rfl) ?_
   refine E_nil ?_
   refine th_norm ?_
   obtain ⟨Hx, hK, hKx, hM, hR⟩ := hS.split [5] rfl
   have hB := fun Hc (hc : Keep Hx Hc) => hR [] Hc (.base hc)
   refine AWp_D hKx rfl (by decide +kernel) ?_
   refine wd (pt b9 1) rfl rfl (fun _ hc => dv_fieldAddr rfl rfl) ?_
   refine wd (sv wa w.length wc) rfl rfl (fun _ hc => dv_load rfl (ld_box ((hB _ hc).box 3 rfl) rfl rfl rfl)) ?_
   refine D_lit (sz := 1) (enc := encI) (xs := ([] : List Int)) (n := 0) hM rfl rfl rfl rfl rfl rfl rfl rfl fun a19 H hM => ?_
   refine wd (sv x17.a x17.xs.length x17.c) rfl rfl (fun _ hc => dv_move rfl) ?_
   refine D_append (k := 1) (bytes := 8) (enc := encI) (xs := ([] : List Int)) (ys := x17.xs) hM rfl rfl rfl rfl rfl rfl rfl rfl rfl rfl (fun _ => rfl) (fun _ => rfl) rfl rfl rfl rfl (hv18.1.keep (hK.trans hM.keep)) (by omega) (by omega) fun a20 c21 x22 H hx23 hn24 hM => ?_
   refine D_lit (sz := 1) (enc := encR) (xs := ([(⟨a20, c21, x22⟩ : Row)] : List (Row))) (n := 1) hM rfl rfl rfl rfl rfl rfl rfl rfl fun a25 H hM => ?_
   refine D_append (k := 0) (bytes := 24) (enc := encR) (xs := w) (ys := ([(⟨a20, c21, x22⟩ : Row)] : List (Row))) hM rfl rfl rfl rfl rfl rfl rfl rfl rfl rfl (fun _ => rfl) (fun _ => rfl) rfl rfl rfl rfl ((hR _ _ hM).sls 7 rfl) (by omega) (by omega) fun a26 c27 x28 H hx29 hn30 hM => ?_
   refine wd (pt b9 1) rfl rfl (fun _ hc => dv_fieldAddr rfl rfl) ?_
   have hS := hR _ _ hM
   refine D_store (i := 3) (yv := sv a26 x28.length c27) (l' := [sv a4 x6.length c5, sv a26 x28.length c27]) hS rfl rfl rfl rfl rfl rfl rfl rfl rfl rfl rfl rfl rfl fun H hS => ?_
   refine bl_norm ?_
   refine th_norm ?_
   refine AWp_E rfl ?_
   refine ed (iv ((i + 1 : Nat) : Int)) rfl rfl (dv_bin rfl rfl (bi_add (by omega))) ?_
   refine ed (iv ((i + 1 : Nat) : Int)) rfl rfl (dv_move rfl) ?_
   refine E_nil ?_
   have hS := hS.join (f := rowE1 2) (q := (⟨a20, c21, x22⟩ : Row)) 4 6 rfl rfl rfl
   rw [← hx29] at hS
   have hlj : ∀ q ∈ x28, q.xs.length ≤ 1048576 := by
     rw [hx29]
     intro q hq
     rcases List.mem_append.1 hq with hq | hq
     · exact hwl q hq
     · rw [List.mem_singleton.1 hq]; dsimp only; omega
   refine loop_next (I := I10) (m.tn - (i + 1)) (by rw [hm13]; omega) ?_
   rw [hI10]
   refine ⟨i + 1, a26, c27, x28, rfl, (all_c rfl (all_c rfl (all_c rfl (all_c rfl (all_c rfl (all_c rfl (all_c rfl (all_c rfl (all_c rfl (all_c rfl (all_c rfl (all_c rfl (all_c rfl all_n))))))))))))), (hS.pick [0, 1, 2, 3, 6, 4] rfl), ?_, ?_, ?_⟩
   · omega
   · rw [hx29, rxs, List.map_append, ← rxs, hw, take_step (map_get (f := Row.xs) hx17)]; simp [*]
   · exact hlj
  ·
   refine ed no rfl rfl (dv_bin rfl rfl (bi_lss_f hc16)) ?_
   refine E_nil ?_
   refine th_norm ?_
   refine AWp_seq ?_
   refine AWp_cond (t := false) rfl nofun (fun _ => ?_)
   refine AWp_exit (th_exit (th_exit (bl_exit (?_))))
   refine th_norm ?_
   refine AWp_seq ?_
   refine AWp_E rfl ?_
   refine ed (.agg #[sv a4 x6.length c5, sv wa w.length wc]) rfl rfl (dv_load rfl (ld_boxA (n := 2) (hS.box 3 rfl) rfl rfl (Nat.le_of_ble_eq_true rfl) rfl)) ?_
   refine S_store (i := 1) (yv := .agg #[sv a4 x6.length c5, sv wa w.length wc]) (l' := [sv a4 x6.length c5, sv wa w.length wc]) hS rfl rfl rfl rfl rfl rfl rfl rfl rfl rfl rfl rfl fun H hS => ?_
   refine E_nil ?_
   refine th_norm ?_
   refine AWp_ret (?_)
   refine ret_of ?_
   refine readsRes_of (rs := [.cell 2 39]) (vs := [.agg #[sv a4 x6.length c5, sv wa w.length wc]]) rfl (re_cons (re_cell (p := pt b2 0) rfl (ld_boxA (n := 2) (hS.box 1 rfl) rfl rfl (Nat.le_of_ble_eq_true rfl) rfl)) (re_nil)) rfl ?_
   refine ⟨⟨a4, c5, x6.length, x6, wa, wc, w.length, w⟩, ?_, ?_, ?_, rfl, hS.pick [2, 5, 4] rfl⟩
   · have hti : (rxs m.ts).take i = rxs m.ts := List.take_of_length_le (by rw [rxs, List.length_map]; omega)
     rw [hti] at hw
     simp [LM.d, hx7, hw]
   · exact ⟨rfl, rfl⟩
   · exact hwl
theorem copyBody_ok (b : LB) (H : AH) (hb : b.ok H) : ACalls Tryz.prog 96 [bva b] H
  (fun r H' => ∃ (b_ : LB), b_.d = b.d ∧ (b_.m.ps.length = b_.m.pn ∧ b_.m.ts.length = b_.m.tn) ∧ (∀ q ∈ b_.m.ts, q.xs.length ≤ 1048576) ∧ (b_.ss.length = b_.sn ∧ b_.ws.length = b_.wn) ∧ r = bva b_ ∧ SepL H [sl encV 41 3 b_.m.pa b_.m.pc b_.m.ps, sl encR 53 1 b_.m.ta b_.m.tc b_.m.ts, rowsE 2 b_.m.ts, sl encS 116 4 b_.sa b_.sc b_.ss, sl encF 27 1 b_.wa b_.wc b_.ws] H') := by
 refine ACalls_of Tryz.func96 rfl (Nat.le_of_ble_eq_true rfl) ?_
 obtain ⟨H0, hH0⟩ : ∃ H0, H0 = H := ⟨_, rfl⟩
 have hS : SepL H0 [] H := hH0 ▸ SepL.refl H
 subst hH0
 obtain ⟨⟨hb_1_ps, hb_1_pn, hb_1_pb⟩, hb_1_ts, hb_1_tn, hb_1_tb⟩ := id hb.1
 obtain ⟨⟨hb_ss, hb_sn, hb_sb⟩, hb_ws, hb_wn, hb_wb⟩ := hb.2
 refine AWp_seq ?_
 refine AWp_E rfl ?_
 refine S_box (l := [sv b.m.pa b.m.pn b.m.pc, sv b.m.ta b.m.tn b.m.tc, sv b.sa b.sn b.sc, fl b.film, fl b.bend, sv b.wa b.wn b.wc, fl b.fall.x, fl b.fall.y, fl b.fall.z]) hS rfl rfl rfl rfl rfl fun b1 H hS => ?_
 refine S_box (l := [sv none 0 0, sv none 0 0, sv none 0 0, fl 0, fl 0, sv none 0 0, fl 0, fl 0, fl 0]) hS rfl rfl rfl rfl rfl fun b2 H hS => ?_
 refine E_nil ?_
 refine th_norm ?_
 refine AWp_seq ?_
 refine AWp_E rfl ?_
 refine ed (pt b1 0) rfl rfl (dv_fieldAddr rfl rfl) ?_
 refine ed (mva b.m) rfl rfl (dv_load rfl (ld_boxA (n := 2) (hS.box 0 rfl) rfl rfl (Nat.le_of_ble_eq_true rfl) rfl)) ?_
 refine E_call (vs := [mva b.m]) rfl rfl rfl rfl rfl rfl rfl (copyMesh_ok b.m _ (hb.1.keep hS.keep)) ?_
 rintro _ H ⟨b3, h4, h5, h6, rfl, hQ⟩
 have hdlh4 : b3.ps.length = b.m.ps.length := congrArg (fun d : Msh => d.ps.length) h4
 have hdth4 : (rxs b3.ts).length = (rxs b.m.ts).length := congrArg (fun d : Msh => d.ts.length) h4
 simp only [rxs, List.length_map] at hdth4
 have hS := hS.push hQ
 refine ed (pt b1 0) rfl rfl (dv_fieldAddr rfl rfl) ?_
 refine S_store (i := 0) (yv := mva b3) (l' := [sv b3.pa b3.pn b3.pc, sv b3.ta b3.tn b3.tc, sv b.sa b.sn b.sc, fl b.film, fl b.bend, sv b.wa b.wn b.wc, fl b.fall.x, fl b.fall.y, fl b.fall.z]) hS rfl rfl rfl rfl rfl rfl rfl rfl rfl rfl rfl rfl fun H hS => ?_
 refine E_nil ?_
 refine th_norm ?_
 refine AWp_seq ?_
 refine AWp_E rfl ?_
 refine S_lit (sz := 4) (enc := encS) (xs := ([] : List Spr)) (n := 0) hS rfl rfl rfl rfl rfl rfl rfl rfl fun a7 H hS => ?_
 refine ed (pt b1 2) rfl rfl (dv_fieldAddr rfl rfl) ?_
 refine ed (sv b.sa b.sn b.sc) rfl rfl (dv_load rfl (ld_box (hS.box 0 rfl) rfl rfl rfl)) ?_
 refine S_append (k := 5) (bytes := 24) (enc := encS) (xs := ([] : List Spr)) (ys := b.ss) hS rfl rfl rfl rfl rfl rfl rfl rfl rfl rfl (fun _ => rfl) (fun _ => rfl) rfl rfl rfl hb_sn (hb_ss.keep hS.keep) (by omega) (by omega) fun a8 c9 x10 H hx11 hn12 hS => ?_
 refine ed (pt b1 2) rfl rfl (dv_fieldAddr rfl rfl) ?_
 refine S_store (i := 0) (yv := sv a8 x10.length c9) (l' := [sv b3.pa b3.pn b3.pc, sv b3.ta b3.tn b3.tc, sv a8 x10.length c9, fl b.film, fl b.bend, sv b.wa b.wn b.wc, fl b.fall.x, fl b.fall.y, fl b.fall.z]) hS rfl rfl rfl rfl rfl rfl rfl rfl rfl rfl rfl rfl fun H hS => ?_
 refine E_nil ?_
 refine th_norm ?_
 refine AWp_seq ?_
 refine AWp_E rfl ?_
 refine S_lit (sz := 1) (enc := encF) (xs := ([] : List Nat)) (n := 0) hS rfl rfl rfl rfl rfl rfl rfl rfl fun a13 H hS => ?_
 refine ed (pt b1 5) rfl rfl (dv_fieldAddr rfl rfl) ?_
 refine ed (sv b.wa b.wn b.wc) rfl rfl (dv_load rfl (ld_box (hS.box 0 rfl) rfl rfl rfl)) ?_
 refine S_append (k := 6) (bytes := 4) (enc := encF) (xs := ([] : List Nat)) (ys := b.ws) hS rfl rfl rfl rfl rfl rfl rfl rfl rfl rfl (fun _ => rfl) (fun _ => rfl) rfl rfl rfl hb_wn (hb_ws.keep hS.keep) (by omega) (by omega) fun a14 c15 x16 H hx17 hn18 hS => ?_
 refine ed (pt b1 5) rfl rfl (dv_fieldAddr rfl rfl) ?_
 refine S_store (i := 0) (yv := sv a14 x16.length c15) (l' := [sv b3.pa b3.pn b3.pc, sv b3.ta b3.tn b3.tc, sv a8 x10.length c9, fl b.film, fl b.bend, sv a14 x16.length c15, fl b.fall.x, fl b.fall.y, fl b.fall.z]) hS rfl rfl rfl rfl rfl rfl rfl rfl rfl rfl rfl rfl fun H hS => ?_
 refine E_nil ?_
 refine th_norm ?_
 refine AWp_seq ?_
 refine AWp_E rfl ?_
 refine ed (.agg #[sv b3.pa b3.pn b3.pc, sv b3.ta b3.tn b3.tc, sv a8 x10.length c9, fl b.film, fl b.bend, sv a14 x16.length c15, fl b.fall.x, fl b.fall.y, fl b.fall.z]) rfl rfl (dv_load rfl (ld_boxA (n := 9) (hS.box 0 rfl) rfl rfl (Nat.le_of_ble_eq_true rfl) rfl)) ?_
 refine S_store (i := 1) (yv := .agg #[sv b3.pa b3.pn b3.pc, sv b3.ta b3.tn b3.tc, sv a8 x10.length c9, fl b.film, fl b.bend, sv a14 x16.length c15, fl b.fall.x, fl b.fall.y, fl b.fall.z]) (l' := [sv b3.pa b3.pn b3.pc, sv b3.ta b3.tn b3.tc, sv a8 x10.length c9, fl b.film, fl b.bend, sv a14 x16.length c15, fl b.fall.x, fl b.fall.y, fl b.fall.z]) hS rfl rfl rfl rfl rfl rfl rfl rfl rfl rfl rfl rfl fun H hS => ?_
 refine E_nil ?_
 refine th_norm ?_
 refine AWp_ret (?_)
 refine ret_of ?_
 refine readsRes_of (rs := [.cell 2 43]) (vs := [.agg #[sv b3.pa b3.pn b3.pc, sv b3.ta b3.tn b3.tc, sv a8 x10.length c9, fl b.film, fl b.bend, sv a14 x16.length c15, fl b.fall.x, fl b.fall.y, fl b.fall.z]]) rfl (re_cons (re_cell (p := pt b2 0) rfl (ld_boxA (n := 9) (hS.box 1 rfl) rfl rfl (Nat.le_of_ble_eq_true rfl) rfl)) (re_nil)) rfl ?_
 refine ⟨⟨b3, a8, c9, x10.length, x10, b.film, b.bend, a14, c15, x16.length, x16, b.fall⟩, ?_, ?_, ?_, ?_, rfl, hS.pick [2, 3, 4, 5, 6] rfl⟩
 · simp_all [LB.d, LM.d]
 · simp_all
 · assumption
 · simp_all
theorem push_ok (p : Int) (v : V3) (k : Nat) (o_p : Nat) (o_a : Option Addr) (o_n o_c : Nat) (o : List (V3)) (Hb H : AH) (hon : o.length = o_n) (hob : o_n ≤ 1048576) (hS : SepL Hb [box o_p [sv o_a o_n o_c] 37, sl encV 41 3 o_a o_c o] H) (hat : 0 ≤ p ∧ p < o_n) : ACalls Tryz.prog 133 [iv p, va v, fl k, pt o_p 0] H
  (fun r H' => ∃ (y_ : List V3), y_ = push o p v k ∧ y_.length = o_n ∧ r = .tuple #[] ∧ SepL Hb [box o_p [sv o_a o_n o_c] 37, sl encV 41 3 o_a o_c y_] H') := by
 refine ACalls_of Tryz.func133 rfl (Nat.le_of_ble_eq_true rfl) ?_
 refine AWp_seq ?_
 refine AWp_E rfl ?_
 refine S_box (l := [fl v.x, fl v.y, fl v.z]) hS rfl rfl rfl rfl rfl fun b1 H hS => ?_
 refine E_nil ?_
 refine th_norm ?_
 have hR := hS.pushes
 have hKb := hS.keep
 have hB := fun Hc (hc : Keep _ Hc) => hR [] Hc (.base hc)
 refine AWp_D0 rfl (by decide +kernel) fun hM => ?_
 refine wd (sv o_a o_n o_c) rfl rfl (fun _ hc => dv_load rfl (ld_box ((hB _ hc).box 0 rfl) rfl rfl rfl)) ?_
 refine wd (iv p) rfl rfl (fun _ hc => dv_move rfl) ?_
 refine wd (sv o_a o_n o_c) rfl rfl (fun _ hc => dv_load rfl (ld_box ((hB _ hc).box 0 rfl) rfl rfl rfl)) ?_
 refine wd (iv p) rfl rfl (fun _ hc => dv_move rfl) ?_
 obtain ⟨x2, hx2⟩ := get_el (xs := o) (i := (p).toNat) (by omega)
 refine wd (sp o_a (((p).toNat) * 3)) rfl rfl (fun _ hc => dv_indexAddr (a := sv o_a o_n o_c) (b := iv p) rfl rfl (ix_sls (n := o_n) (i := ((p).toNat)) ((hB _ hc).sls 1 rfl) hx2 rfl rfl (by omega) (by omega))) ?_
 refine wd (va x2) rfl rfl (fun _ hc => dv_load rfl (ld_slsA (sz := 3) (m := 3) (ys := [fl x2.x, fl x2.y, fl x2.z]) (off := 0) ((hB _ hc).sls 1 rfl) hx2 (fun _ => rfl) rfl rfl (Nat.le_of_ble_eq_true rfl) rfl)) ?_
 refine wd (va v) rfl rfl (fun _ hc => dv_load rfl (ld_boxA (n := 3) ((hB _ hc).box 2 rfl) rfl rfl (Nat.le_of_ble_eq_true rfl) rfl)) ?_
 refine wd (fl k) rfl rfl (fun _ hc => dv_move rfl) ?_
 refine W_call (vs := [va v, fl k]) rfl rfl rfl rfl rfl rfl rfl (ScaleVector_ok v k _) ?_
 rintro _ H ⟨v3, rfl, rfl, hQ⟩
 have hM := hM.up hQ.keep
 refine ⟨hM.keep, ?_⟩
 refine W_call (vs := [va x2, .agg #[fl ((vscale v k).x), fl ((vscale v k).y), fl ((vscale v k).z)]]) rfl rfl rfl rfl rfl rfl rfl (AddVectors_ok x2 (vscale v k) _) ?_
 rintro _ H ⟨v4, rfl, rfl, hQ⟩
 have hM := hM.up hQ.keep
 refine ⟨hM.keep, ?_⟩
 refine wd (sp o_a (((p).toNat) * 3)) rfl rfl (fun _ hc => dv_indexAddr (a := sv o_a o_n o_c) (b := iv p) rfl rfl (ix_sls (n := o_n) (i := ((p).toNat)) ((hB _ hc).sls 1 rfl) hx2 rfl rfl (by omega) (by omega))) ?_
 have hS := hR _ _ hM
 refine D_storeS (k := 1) (i := ((p).toNat)) (z' := (vadd x2 (vscale v k))) (off := 0) (yv := .agg #[fl ((vadd x2 (vscale v k)).x), fl ((vadd x2 (vscale v k)).y), fl ((vadd x2 (vscale v k)).z)]) hS rfl rfl rfl rfl rfl (fun _ => rfl) rfl rfl rfl hx2 rfl rfl rfl rfl fun H hS => ?_
 have hx5 := set_get (z := (vadd x2 (vscale v k))) hx2
 refine ret_of' ?_
 refine readsRes_of (rs := []) (vs := []) rfl (re_nil) rfl ?_
 refine ⟨(o.set ((p).toNat) (vadd x2 (vscale v k))), ?_, ?_, rfl, hS.pick [0, 1] rfl⟩
 · simp only [push, at3_of hx2, at3_of hx5]
 · rw [List.length_set]; exact hon
theorem forcesOf_ok (b : LB) (H : AH) (hb : b.ok H) (hb0 : Bod.ok b.d) : ACalls Tryz.prog 105 [bva b] H
  (fun r H' => ∃ (x_a : Option Addr), ∃ (x_n : Nat), ∃ (x_c : Nat), ∃ (x_ : List (V3)), x_.length = b.m.ps.length ∧ x_ = forcesD b.d ∧ x_.length = x_n ∧ r = sv x_a x_n x_c ∧ SepL H [sl encV 41 3 x_a x_c x_] H') := by
 refine ACalls_of Tryz.func105 rfl (Nat.le_of_ble_eq_true rfl) ?_
 obtain ⟨H0, hH0⟩ : ∃ H0, H0 = H := ⟨_, rfl⟩
 have hS : SepL H0 [] H := hH0 ▸ SepL.refl H
 subst hH0
 obtain ⟨⟨hb_1_ps, hb_1_pn, hb_1_pb⟩, hb_1_ts, hb_1_tn, hb_1_tb⟩ := id hb.1
 obtain ⟨⟨hb_ss, hb_sn, hb_sb⟩, hb_ws, hb_wn, hb_wb⟩ := hb.2
 have hbm : meshP b.m.ps.length (rxs b.m.ts) := hb0.1
 have hbw : b.ws.length = b.m.ps.length := hb0.2.2.1
 have hbss : b.ss.length ≤ 200 := hb0.2.1
 have hbn : b.m.ps.length ≤ 64 := hbm.1
 have hhl := hinges_le b.m.ps.length (rxs b.m.ts) hbn
 refine AWp_seq ?_
 refine AWp_E rfl ?_
 refine S_box (l := [sv b.m.pa b.m.pn b.m.pc, sv b.m.ta b.m.tn b.m.tc, sv b.sa b.sn b.sc, fl b.film, fl b.bend, sv b.wa b.wn b.wc, fl b.fall.x, fl b.fall.y, fl b.fall.z]) hS rfl rfl rfl rfl rfl fun b1 H hS => ?_
 refine ed (sv none 0 0) rfl rfl (dv_assign rfl) ?_
 refine E_nil ?_
 refine th_norm ?_
 refine AWp_seq ?_
 refine AWp_E rfl ?_
 refine ed (pt b1 0) rfl rfl (dv_fieldAddr rfl rfl) ?_
 refine ed (pt b1 0) rfl rfl (dv_fieldAddr rfl rfl) ?_
 refine ed (sv b.m.pa b.m.pn b.m.pc) rfl rfl (dv_load rfl (ld_box (hS.box 0 rfl) rfl rfl rfl)) ?_
 refine ed (iv ((b.m.pn : Nat) : Int)) rfl rfl (dv_len rfl rfl rfl rfl rfl) ?_
 refine S_make (sz := 3) (enc := encV) (z := v0) hS rfl rfl rfl (dn_make (nb := 12) (n := b.m.pn) (zs := [fl 0, fl 0, fl 0]) rfl rfl rfl rfl rfl rfl rfl (by omega) (by omega)) rfl rfl (by unfold maxLen; omega) fun a2 x3 H hx4 hn5 hS => ?_
 refine S_box (l := [sv none 0 0]) hS rfl rfl rfl rfl rfl fun b6 H hS => ?_
 refine S_store (i := 2) (yv := sv a2 b.m.pn b.m.pn) (l' := [sv a2 b.m.pn b.m.pn]) hS rfl rfl rfl rfl rfl rfl rfl rfl rfl rfl rfl rfl fun H hS => ?_
 refine E_nil ?_
 refine th_norm ?_
 refine AWp_seq ?_
 refine AWp_E rfl ?_
 refine ed (.func (.func 133) #[] #[pt b6 0]) rfl rfl (dv_fn rfl rfl) ?_
 refine ed (.func (.func 133) #[] #[pt b6 0]) rfl rfl (dv_assign rfl) ?_
 refine E_nil ?_
 refine th_norm ?_
 refine AWp_seq ?_
 refine AWp_seq ?_
 refine AWp_E rfl ?_
 refine ed (pt b1 2) rfl rfl (dv_fieldAddr rfl rfl) ?_
 refine ed (sv b.sa b.sn b.sc) rfl rfl (dv_load rfl (ld_box (hS.box 0 rfl) rfl rfl rfl)) ?_
 refine ed (iv ((b.sn : Nat) : Int)) rfl rfl (dv_len rfl rfl rfl rfl rfl) ?_
 refine ed (iv 0) rfl rfl (dv_move rfl) ?_
 refine E_nil ?_
 refine th_norm ?_
 refine AWp_block ?_
 obtain ⟨I7, hI7⟩ : ∃ I : Nat → Env → AH → Prop, ∀ m_ e_ Hl, I m_ e_ Hl = (∃ (i : Nat) (o : List (V3)), m_ = b.sn - i ∧ AllE [(0, bva b), (1, pt b1 0), (2, sv none 0 0), (3, pt b6 0), (4, .func (.func 133) #[] #[pt b6 0]), (23, pt b1 0), (24, pt b1 0), (25, sv b.m.pa b.m.pn b.m.pc), (26, iv ((b.m.pn : Nat) : Int)), (27, sv a2 b.m.pn b.m.pn), (28, .func (.func 133) #[] #[pt b6 0]), (29, pt b1 2), (30, sv b.sa b.sn b.sc), (31, iv ((b.sn : Nat) : Int)), (32, iv ((i : Nat) : Int))] e_ ∧ SepL H0 [box b1 [sv b.m.pa b.m.pn b.m.pc, sv b.m.ta b.m.tn b.m.tc, sv b.sa b.sn b.sc, fl b.film, fl b.bend, sv b.wa b.wn b.wc, fl b.fall.x, fl b.fall.y, fl b.fall.z] 43, sl encV 41 3 a2 b.m.pn o, box b6 [sv a2 b.m.pn b.m.pn] 37] Hl ∧ o.length = b.m.pn ∧ (i ≤ b.sn) ∧ (o = (iter (force0 b.d) (List.replicate b.m.ps.length v0) i))) := ⟨_, fun _ _ _ => rfl⟩
 refine AWp_loop I7 (b.sn - (0)) ?_ ?_
 ·
  rw [hI7]
  refine ⟨0, x3, rfl, (all_c rfl (all_c rfl (all_c rfl (all_c rfl (all_c rfl (all_c rfl (all_c rfl (all_c rfl (all_c rfl (all_c rfl (all_c rfl (all_c rfl (all_c rfl (all_c rfl (all_c rfl all_n))))))))))))))), hS, hn5, ?_, ?_⟩
  · omega
  · rw [hx4, hb_1_pn]; rfl
 ·
  intro m8 _ H hl9
  rw [hI7] at hl9
  obtain ⟨i, o, hm10, he11, hS, ho_n, hi, ho⟩ := hl9
  obtain ⟨e12, rfl⟩ := he11.ex
  refine AWp_seq ?_
  refine AWp_E rfl ?_
  rcases Decidable.em (((i : Nat) : Int) < ((b.sn : Nat) : Int)) with hc13 | hc13
  ·
   refine ed yes rfl rfl (dv_bin rfl rfl (bi_lss_t hc13)) ?_
   refine E_nil ?_
   refine th_norm ?_
   refine AWp_seq ?_
   refine AWp_cond (t := true) rfl (fun _ => ?_) nofun
   refine AWp_skip ?_
   refine th_norm ?_
   refine AWp_seq ?_
   refine AWp_block ?_
   refine AWp_seq ?_
   refine AWp_E rfl ?_
   obtain ⟨x14, hx14⟩ := get_el (xs := b.ss) (i := i) (by omega)
   have hsk : sprP b.m.ps.length x14 := hb0.2.2.2 _ (List.mem_of_getElem? hx14)
   have hsk2 := hsk
   unfold sprP inP at hsk2
   refine ed (sp b.sa (i * 4)) rfl rfl (dv_indexAddr (a := sv b.sa b.sn b.sc) (b := iv ((i : Nat) : Int)) rfl rfl (ix_sls (n := b.sn) (i := i) (hb_ss.keep hS.keep) hx14 rfl rfl rfl (by omega))) ?_
   refine ed (.agg #[iv x14.A, iv x14.B, fl x14.Long, fl x14.Stiff]) rfl rfl (dv_load rfl (ld_slsA (sz := 4) (m := 4) (ys := [iv x14.A, iv x14.B, fl x14.Long, fl x14.Stiff]) (off := 0) (hb_ss.keep hS.keep) hx14 (fun _ => rfl) rfl rfl (Nat.le_of_ble_eq_true rfl) rfl)) ?_
   refine S_box (l := [iv 0, iv 0, fl 0, fl 0]) hS rfl rfl rfl rfl rfl fun b15 H hS => ?_
   refine S_store (i := 3) (yv := .agg #[iv x14.A, iv x14.B, fl x14.Long, fl x14.Stiff]) (l' := [iv x14.A, iv x14.B, fl x14.Long, fl x14.Stiff]) hS rfl rfl rfl rfl rfl rfl rfl rfl rfl rfl rfl rfl fun H hS => ?_
   refine E_nil ?_
   refine th_norm ?_
   refine AWp_seq ?_
   refine AWp_E rfl ?_
   refine ed (bva b) rfl rfl (dv_load rfl (ld_boxA (n := 9) (hS.box 0 rfl) rfl rfl (Nat.le_of_ble_eq_true rfl) rfl)) ?_
   refine ed (.agg #[iv x14.A, iv x14.B, fl x14.Long, fl x14.Stiff]) rfl rfl (dv_load rfl (ld_boxA (n := 4) (hS.box 3 rfl) rfl rfl (Nat.le_of_ble_eq_true rfl) rfl)) ?_
   refine E_call (vs := [bva b, .agg #[iv x14.A, iv x14.B, fl x14.Long, fl x14.Stiff]]) rfl rfl rfl rfl rfl rfl rfl (alongSpring_ok b x14 _ (hb.keep hS.keep) (by first | assumption | omega | (simp only [*]; assumption) | (simp_all; done))) ?_
   rintro _ H ⟨v16, rfl, rfl, hQ⟩
   have hS := hS.up hQ.keep
   refine S_box (l := [fl 0, fl 0, fl 0]) hS rfl rfl rfl rfl rfl fun b17 H hS => ?_
   refine S_store (i := 4) (yv := .agg #[fl ((alongD b.m.ps x14).x), fl ((alongD b.m.ps x14).y), fl ((alongD b.m.ps x14).z)]) (l' := [fl ((alongD b.m.ps x14).x), fl ((alongD b.m.ps x14).y), fl ((alongD b.m.ps x14).z)]) hS rfl rfl rfl rfl rfl rfl rfl rfl rfl rfl rfl rfl fun H hS => ?_
   refine E_nil ?_
   refine th_norm ?_
   refine AWp_seq ?_
   refine AWp_E rfl ?_
   refine ed (.agg #[fl ((alongD b.m.ps x14).x), fl ((alongD b.m.ps x14).y), fl ((alongD b.m.ps x14).z)]) rfl rfl (dv_load rfl (ld_boxA (n := 3) (hS.box 4 rfl) rfl rfl (Nat.le_of_ble_eq_true rfl) rfl)) ?_
   refine ed (.agg #[iv x14.A, iv x14.B, fl x14.Long, fl x14.Stiff]) rfl rfl (dv_load rfl (ld_boxA (n := 4) (hS.box 3 rfl) rfl rfl (Nat.le_of_ble_eq_true rfl) rfl)) ?_
   refine E_call (vs := [.agg #[fl ((alongD b.m.ps x14).x), fl ((alongD b.m.ps x14).y), fl ((alongD b.m.ps x14).z)], .agg #[iv x14.A, iv x14.B, fl x14.Long, fl x14.Stiff]]) rfl rfl rfl rfl rfl rfl rfl (pullBy_ok (alongD b.m.ps x14) x14 _) ?_
   rintro _ H ⟨v18, rfl, rfl, hQ⟩
   have hS := hS.up hQ.keep
   refine ed (fl (pullD (alongD b.m.ps x14) x14)) rfl rfl (dv_assign rfl) ?_
   refine E_nil ?_
   refine th_norm ?_
   refine AWp_seq ?_
   refine AWp_E rfl ?_
   refine ed (.func (.func 133) #[] #[pt b6 0]) rfl rfl (dv_move rfl) ?_
   refine ed (pt b15 0) rfl rfl (dv_fieldAddr rfl rfl) ?_
   refine ed (iv x14.A) rfl rfl (dv_load rfl (ld_box (hS.box 3 rfl) rfl rfl rfl)) ?_
   refine ed (.agg #[fl ((alongD b.m.ps x14).x), fl ((alongD b.m.ps x14).y), fl ((alongD b.m.ps x14).z)]) rfl rfl (dv_load rfl (ld_boxA (n := 3) (hS.box 4 rfl) rfl rfl (Nat.le_of_ble_eq_true rfl) rfl)) ?_
   refine ed (fl (pullD (alongD b.m.ps x14) x14)) rfl rfl (dv_move rfl) ?_
   obtain ⟨Hy, hKy, _, hN, hQ⟩ := hS.split [2, 1] rfl
   have hY := hQ [] _ (SepL.refl Hy)
   refine E_callF (k := 133) (cs := [pt b6 0]) (vs := [iv x14.A, .agg #[fl ((alongD b.m.ps x14).x), fl ((alongD b.m.ps x14).y), fl ((alongD b.m.ps x14).z)], fl (pullD (alongD b.m.ps x14) x14)]) rfl rfl rfl rfl rfl rfl rfl rfl (push_ok x14.A (alongD b.m.ps x14) (pullD (alongD b.m.ps x14) x14) b6 a2 b.m.pn b.m.pn o _ _ ho_n (by omega) hN (by first | assumption | omega | (simp only [*]; assumption) | (simp_all; done))) ?_
   rintro _ H ⟨y19, h20, h21, rfl, hP⟩
   have hlh20 := congrArg List.length h20
   have hS : SepL _ [box b1 [sv b.m.pa b.m.pn b.m.pc, sv b.m.ta b.m.tn b.m.tc, sv b.sa b.sn b.sc, fl b.film, fl b.bend, sv b.wa b.wn b.wc, fl b.fall.x, fl b.fall.y, fl b.fall.z] 43, box b15 [iv x14.A, iv x14.B, fl x14.Long, fl x14.Stiff] 116, box b17 [fl ((alongD b.m.ps x14).x), fl ((alongD b.m.ps x14).y), fl ((alongD b.m.ps x14).z)] 41, box b6 [sv a2 b.m.pn b.m.pn] 37, sl encV 41 3 a2 b.m.pn y19] H := hQ _ _ hP
   refine E_nil ?_
   refine th_norm ?_
   refine AWp_E rfl ?_
   refine ed (.func (.func 133) #[] #[pt b6 0]) rfl rfl (dv_move rfl) ?_
   refine ed (pt b15 1) rfl rfl (dv_fieldAddr rfl rfl) ?_
   refine ed (iv x14.B) rfl rfl (dv_load rfl (ld_box (hS.box 1 rfl) rfl rfl rfl)) ?_
   refine ed (.agg #[fl ((alongD b.m.ps x14).x), fl ((alongD b.m.ps x14).y), fl ((alongD b.m.ps x14).z)]) rfl rfl (dv_load rfl (ld_boxA (n := 3) (hS.box 2 rfl) rfl rfl (Nat.le_of_ble_eq_true rfl) rfl)) ?_
   refine ed (fl (pullD (alongD b.m.ps x14) x14)) rfl rfl (dv_move rfl) ?_
   refine ed (fl (fneg .f32 (pullD (alongD b.m.ps x14) x14))) rfl rfl (dv_un rfl rfl) ?_
   obtain ⟨Hy, hKy, _, hN, hQ⟩ := hS.split [3, 4] rfl
   have hY := hQ [] _ (SepL.refl Hy)
   refine E_callF (k := 133) (cs := [pt b6 0]) (vs := [iv x14.B, .agg #[fl ((alongD b.m.ps x14).x), fl ((alongD b.m.ps x14).y), fl ((alongD b.m.ps x14).z)], fl (fneg .f32 (pullD (alongD b.m.ps x14) x14))]) rfl rfl rfl rfl rfl rfl rfl rfl (push_ok x14.B (alongD b.m.ps x14) (fneg .f32 (pullD (alongD b.m.ps x14) x14)) b6 a2 b.m.pn b.m.pn y19 _ _ h21 (by omega) hN (by first | assumption | omega | (simp only [*]; assumption) | (simp_all; done))) ?_
   rintro _ H ⟨y22, h23, h24, rfl, hP⟩
   have hlh23 := congrArg List.length h23
   have hS : SepL _ [box b1 [sv b.m.pa b.m.pn b.m.pc, sv b.m.ta b.m.tn b.m.tc, sv b.sa b.sn b.sc, fl b.film, fl b.bend, sv b.wa b.wn b.wc, fl b.fall.x, fl b.fall.y, fl b.fall.z] 43, box b15 [iv x14.A, iv x14.B, fl x14.Long, fl x14.Stiff] 116, box b17 [fl ((alongD b.m.ps x14).x), fl ((alongD b.m.ps x14).y), fl ((alongD b.m.ps x14).z)] 41, box b6 [sv a2 b.m.pn b.m.pn] 37, sl encV 41 3 a2 b.m.pn y22] H := hQ _ _ hP
   refine E_nil ?_
   refine bl_norm ?_
   refine th_norm ?_
   refine AWp_E rfl ?_
   refine ed (iv ((i + 1 : Nat) : Int)) rfl rfl (dv_bin rfl rfl (bi_add (by omega))) ?_
   refine ed (iv ((i + 1 : Nat) : Int)) rfl rfl (dv_move rfl) ?_
   refine E_nil ?_
   refine loop_next (I := I7) (b.sn - (i + 1)) (by rw [hm10]; omega) ?_
   rw [hI7]
   refine ⟨i + 1, y22, rfl, (all_c rfl (all_c rfl (all_c rfl (all_c rfl (all_c rfl (all_c rfl (all_c rfl (all_c rfl (all_c rfl (all_c rfl (all_c rfl (all_c rfl (all_c rfl (all_c rfl (all_c rfl all_n))))))))))))))), (hS.pick [0, 4, 3] rfl), h24, ?_, ?_⟩
   · omega
   · refine iter_to ho ?_
     rw [h23, h20]
     simp only [force0, push, pushH, LB.d, LM.d, rxs, Msh.hinges, Int.toNat_natCast, gD s0 hx14]
  ·
   refine ed no rfl rfl (dv_bin rfl rfl (bi_lss_f hc13)) ?_
   refine E_nil ?_
   refine th_norm ?_
   refine AWp_seq ?_
   refine AWp_cond (t := false) rfl nofun (fun _ => ?_)
   refine AWp_exit (th_exit (th_exit (bl_exit (?_))))
   refine th_norm ?_
   refine AWp_seq ?_
   refine AWp_E rfl ?_
   refine ed (pt b1 0) rfl rfl (dv_fieldAddr rfl rfl) ?_
   refine ed (pt b1 0) rfl rfl (dv_fieldAddr rfl rfl) ?_
   refine ed (sv b.m.pa b.m.pn b.m.pc) rfl rfl (dv_load rfl (ld_box (hS.box 0 rfl) rfl rfl rfl)) ?_
   refine ed (sv b.m.pa b.m.pn b.m.pc) rfl rfl (dv_assign rfl) ?_
   refine E_nil ?_
   refine th_norm ?_
   refine AWp_seq ?_
   refine AWp_seq ?_
   refine AWp_E rfl ?_
   refine ed (pt b1 0) rfl rfl (dv_fieldAddr rfl rfl) ?_
   refine ed (pt b1 1) rfl rfl (dv_fieldAddr rfl rfl) ?_
   refine ed (sv b.m.ta b.m.tn b.m.tc) rfl rfl (dv_load rfl (ld_box (hS.box 0 rfl) rfl rfl rfl)) ?_
   refine ed (iv ((b.m.tn : Nat) : Int)) rfl rfl (dv_len rfl rfl rfl rfl rfl) ?_
   refine ed (iv 0) rfl rfl (dv_move rfl) ?_
   refine E_nil ?_
   refine th_norm ?_
   refine AWp_block ?_
   obtain ⟨I25, hI25⟩ : ∃ I : Nat → Env → AH → Prop, ∀ m_ e_ Hl, I m_ e_ Hl = (∃ (j : Nat) (o : List (V3)), m_ = b.m.tn - j ∧ AllE [(0, bva b), (1, pt b1 0), (2, sv none 0 0), (3, pt b6 0), (4, .func (.func 133) #[] #[pt b6 0]), (9, sv b.m.pa b.m.pn b.m.pc), (23, pt b1 0), (24, pt b1 0), (25, sv b.m.pa b.m.pn b.m.pc), (26, iv ((b.m.pn : Nat) : Int)), (27, sv a2 b.m.pn b.m.pn), (28, .func (.func 133) #[] #[pt b6 0]), (29, pt b1 2), (30, sv b.sa b.sn b.sc), (31, iv ((b.sn : Nat) : Int)), (32, iv ((i : Nat) : Int)), (33, no), (56, pt b1 0), (57, pt b1 0), (58, sv b.m.pa b.m.pn b.m.pc), (59, pt b1 0), (60, pt b1 1), (61, sv b.m.ta b.m.tn b.m.tc), (62, iv ((b.m.tn : Nat) : Int)), (63, iv ((j : Nat) : Int))] e_ ∧ SepL H0 [box b1 [sv b.m.pa b.m.pn b.m.pc, sv b.m.ta b.m.tn b.m.tc, sv b.sa b.sn b.sc, fl b.film, fl b.bend, sv b.wa b.wn b.wc, fl b.fall.x, fl b.fall.y, fl b.fall.z] 43, sl encV 41 3 a2 b.m.pn o, box b6 [sv a2 b.m.pn b.m.pn] 37] Hl ∧ o.length = b.m.pn ∧ (j ≤ b.m.tn) ∧ (o = (iter (force1 b.d) (iter (force0 b.d) (List.replicate b.m.ps.length v0) b.ss.length) j))) := ⟨_, fun _ _ _ => rfl⟩
   refine AWp_loop I25 (b.m.tn - (0)) ?_ ?_
   ·
    rw [hI25]
    refine ⟨0, o, rfl, (all_c rfl (all_c rfl (all_c rfl (all_c rfl (all_c rfl (all_c rfl (all_c rfl (all_c rfl (all_c rfl (all_c rfl (all_c rfl (all_c rfl (all_c rfl (all_c rfl (all_c rfl (all_c rfl (all_c rfl (all_c rfl (all_c rfl (all_c rfl (all_c rfl (all_c rfl (all_c rfl (all_c rfl (all_c rfl all_n))))))))))))))))))))))))), hS, ho_n, ?_, ?_⟩
    · omega
    · have hii : i = b.ss.length := by omega
      rw [ho, hii]; rfl
   ·
    intro m26 _ H hl27
    rw [hI25] at hl27
    obtain ⟨j, o, hm28, he29, hS, ho_n, hi, ho⟩ := hl27
    obtain ⟨e30, rfl⟩ := he29.ex
    refine AWp_seq ?_
    refine AWp_E rfl ?_
    rcases Decidable.em (((j : Nat) : Int) < ((b.m.tn : Nat) : Int)) with hc31 | hc31
    ·
     refine ed yes rfl rfl (dv_bin rfl rfl (bi_lss_t hc31)) ?_
     refine E_nil ?_
     refine th_norm ?_
     refine AWp_seq ?_
     refine AWp_cond (t := true) rfl (fun _ => ?_) nofun
     refine AWp_skip ?_
     refine th_norm ?_
     refine AWp_seq ?_
     refine AWp_block ?_
     refine AWp_seq ?_
     refine AWp_E rfl ?_
     obtain ⟨x32, hx32⟩ := get_el (xs := b.m.ts) (i := j) (by omega)
     have hv33 := hb_1_ts.el hx32
     have hv33l := hv33.2
     have htk := meshP_row hbm hx32
     have htl := htk.1
     refine ed (sp b.m.ta (j * 1)) rfl rfl (dv_indexAddr (a := sv b.m.ta b.m.tn b.m.tc) (b := iv ((j : Nat) : Int)) rfl rfl (ix_sls (n := b.m.tn) (i := j) (hb_1_ts.1.keep hS.keep) hx32 rfl rfl rfl (by omega))) ?_
     refine ed (sv x32.a x32.xs.length x32.c) rfl rfl (dv_load rfl (ld_sls (sz := 1) (off := 0) (hb_1_ts.1.keep hS.keep) hx32 (fun _ => rfl) rfl rfl rfl)) ?_
     refine ed (sv x32.a x32.xs.length x32.c) rfl rfl (dv_assign rfl) ?_
     refine E_nil ?_
     refine th_norm ?_
     refine AWp_seq ?_
     refine AWp_E rfl ?_
     refine ed (pt b1 0) rfl rfl (dv_fieldAddr rfl rfl) ?_
     refine ed (mva b.m) rfl rfl (dv_load rfl (ld_boxA (n := 2) (hS.box 0 rfl) rfl rfl (Nat.le_of_ble_eq_true rfl) rfl)) ?_
     refine ed (sv x32.a x32.xs.length x32.c) rfl rfl (dv_move rfl) ?_
     refine E_call (vs := [mva b.m, sv x32.a x32.xs.length x32.c]) rfl rfl rfl rfl rfl rfl rfl (normalOf_ok b.m x32.a x32.xs.length x32.c x32.xs _ (hb.1.keep hS.keep) ⟨(hv33.1.keep hS.keep), rfl, hv33.2⟩ (by first | assumption | omega | (simp only [*]; assumption) | (simp_all; done))) ?_
     rintro _ H ⟨v34, rfl, rfl, hQ⟩
     have hS := hS.up hQ.keep
     refine S_box (l := [fl 0, fl 0, fl 0]) hS rfl rfl rfl rfl rfl fun b35 H hS => ?_
     refine S_store (i := 3) (yv := .agg #[fl ((normalD b.m.ps x32.xs).x), fl ((normalD b.m.ps x32.xs).y), fl ((normalD b.m.ps x32.xs).z)]) (l' := [fl ((normalD b.m.ps x32.xs).x), fl ((normalD b.m.ps x32.xs).y), fl ((normalD b.m.ps x32.xs).z)]) hS rfl rfl rfl rfl rfl rfl rfl rfl rfl rfl rfl rfl fun H hS => ?_
     refine E_nil ?_
     refine th_norm ?_
     refine AWp_seq ?_
     refine AWp_E rfl ?_
     refine ed (fl 0) rfl rfl (dv_assign rfl) ?_
     refine E_nil ?_
     refine th_norm ?_
     refine AWp_seq ?_
     refine AWp_seq ?_
     refine AWp_E rfl ?_
     refine ed (.agg #[fl ((normalD b.m.ps x32.xs).x), fl ((normalD b.m.ps x32.xs).y), fl ((normalD b.m.ps x32.xs).z)]) rfl rfl (dv_load rfl (ld_boxA (n := 3) (hS.box 3 rfl) rfl rfl (Nat.le_of_ble_eq_true rfl) rfl)) ?_
     refine E_call (vs := [.agg #[fl ((normalD b.m.ps x32.xs).x), fl ((normalD b.m.ps x32.xs).y), fl ((normalD b.m.ps x32.xs).z)]]) rfl rfl rfl rfl rfl rfl rfl (LongOf_ok (normalD b.m.ps x32.xs) _) ?_
     rintro _ H ⟨v36, rfl, rfl, hQ⟩
     have hS := hS.up hQ.keep
     refine ed (fl (vlong (normalD b.m.ps x32.xs))) rfl rfl (dv_assign rfl) ?_
     refine E_nil ?_
     refine th_norm ?_
     refine AWp_seq ?_
     refine AWp_E rfl ?_
     refine ed (fl (vlong (normalD b.m.ps x32.xs))) rfl rfl (dv_move rfl) ?_
     rcases Bool.eq_false_or_eq_true (fgt .f32 (vlong (normalD b.m.ps x32.xs)) 0) with hc37 | hc37
     ·
      refine ed yes rfl rfl (dv_bin rfl rfl (isB bf_gtr hc37)) ?_
      refine E_nil ?_
      refine th_norm ?_
      refine AWp_cond (t := true) rfl (fun _ => ?_) nofun
      refine AWp_E rfl ?_
      refine ed (pt b1 3) rfl rfl (dv_fieldAddr rfl rfl) ?_
      refine ed (fl b.film) rfl rfl (dv_load rfl (ld_box (hS.box 0 rfl) rfl rfl rfl)) ?_
      refine ed (fl (fop .mul .f32 1056964608 b.film)) rfl rfl (dv_bin rfl rfl rfl) ?_
      refine ed (fl (fneg .f32 (fop .mul .f32 1056964608 b.film))) rfl rfl (dv_un rfl rfl) ?_
      refine ed (fl (vlong (normalD b.m.ps x32.xs))) rfl rfl (dv_move rfl) ?_
      refine ed (fl (fop .div .f32 (fneg .f32 (fop .mul .f32 1056964608 b.film)) (vlong (normalD b.m.ps x32.xs)))) rfl rfl (dv_bin rfl rfl rfl) ?_
      refine ed (fl (fop .div .f32 (fneg .f32 (fop .mul .f32 1056964608 b.film)) (vlong (normalD b.m.ps x32.xs)))) rfl rfl (dv_assign rfl) ?_
      refine E_nil ?_
      refine th_norm ?_
      refine AWp_seq ?_
      refine AWp_E rfl ?_
      refine ed (iv 0) rfl rfl (dv_move rfl) ?_
      refine E_nil ?_
      refine th_norm ?_
      refine AWp_block ?_
      obtain ⟨I38, hI38⟩ : ∃ I : Nat → Env → AH → Prop, ∀ m_ e_ Hl, I m_ e_ Hl = (∃ (k : Nat) (p : List (V3)), m_ = 3 - k ∧ AllE [(0, bva b), (1, pt b1 0), (2, sv none 0 0), (3, pt b6 0), (4, .func (.func 133) #[] #[pt b6 0]), (9, sv b.m.pa b.m.pn b.m.pc), (11, sv x32.a x32.xs.length x32.c), (12, pt b35 0), (13, fl (fop .div .f32 (fneg .f32 (fop .mul .f32 1056964608 b.film)) (vlong (normalD b.m.ps x32.xs)))), (14, fl (vlong (normalD b.m.ps x32.xs))), (23, pt b1 0), (24, pt b1 0), (25, sv b.m.pa b.m.pn b.m.pc), (26, iv ((b.m.pn : Nat) : Int)), (27, sv a2 b.m.pn b.m.pn), (28, .func (.func 133) #[] #[pt b6 0]), (29, pt b1 2), (30, sv b.sa b.sn b.sc), (31, iv ((b.sn : Nat) : Int)), (32, iv ((i : Nat) : Int)), (33, no), (56, pt b1 0), (57, pt b1 0), (58, sv b.m.pa b.m.pn b.m.pc), (59, pt b1 0), (60, pt b1 1), (61, sv b.m.ta b.m.tn b.m.tc), (62, iv ((b.m.tn : Nat) : Int)), (63, iv ((j : Nat) : Int)), (64, yes), (65, sp b.m.ta (j * 1)), (66, sv x32.a x32.xs.length x32.c), (67, pt b1 0), (68, mva b.m), (69, sv x32.a x32.xs.length x32.c), (70, .agg #[fl ((normalD b.m.ps x32.xs).x), fl ((normalD b.m.ps x32.xs).y), fl ((normalD b.m.ps x32.xs).z)]), (71, .agg #[fl ((normalD b.m.ps x32.xs).x), fl ((normalD b.m.ps x32.xs).y), fl ((normalD b.m.ps x32.xs).z)]), (72, fl (vlong (normalD b.m.ps x32.xs))), (73, fl (vlong (normalD b.m.ps x32.xs))), (74, yes), (75, pt b1 3), (76, fl b.film), (77, fl (fop .mul .f32 1056964608 b.film)), (78, fl (fneg .f32 (fop .mul .f32 1056964608 b.film))), (79, fl (vlong (normalD b.m.ps x32.xs))), (80, fl (fop .div .f32 (fneg .f32 (fop .mul .f32 1056964608 b.film)) (vlong (normalD b.m.ps x32.xs)))), (81, iv ((k : Nat) : Int))] e_ ∧ SepL H0 [box b1 [sv b.m.pa b.m.pn b.m.pc, sv b.m.ta b.m.tn b.m.tc, sv b.sa b.sn b.sc, fl b.film, fl b.bend, sv b.wa b.wn b.wc, fl b.fall.x, fl b.fall.y, fl b.fall.z] 43, sl encV 41 3 a2 b.m.pn p, box b6 [sv a2 b.m.pn b.m.pn] 37, box b35 [fl ((normalD b.m.ps x32.xs).x), fl ((normalD b.m.ps x32.xs).y), fl ((normalD b.m.ps x32.xs).z)] 41] Hl ∧ p.length = b.m.pn ∧ (k ≤ 3) ∧ (p = iter (side b.m.ps x32.xs (normalD b.m.ps x32.xs) (fop .div .f32 (fneg .f32 (fop .mul .f32 1056964608 b.film)) (vlong (normalD b.m.ps x32.xs)))) o k)) := ⟨_, fun _ _ _ => rfl⟩
      refine AWp_loop I38 (3 - (0)) ?_ ?_
      ·
       rw [hI38]
       refine ⟨0, o, rfl, (all_c rfl (all_c rfl (all_c rfl (all_c rfl (all_c rfl (all_c rfl (all_c rfl (all_c rfl (all_c rfl (all_c rfl (all_c rfl (all_c rfl (all_c rfl (all_c rfl (all_c rfl (all_c rfl (all_c rfl (all_c rfl (all_c rfl (all_c rfl (all_c rfl (all_c rfl (all_c rfl (all_c rfl (all_c rfl (all_c rfl (all_c rfl (all_c rfl (all_c rfl (all_c rfl (all_c rfl (all_c rfl (all_c rfl (all_c rfl (all_c rfl (all_c rfl (all_c rfl (all_c rfl (all_c rfl (all_c rfl (all_c rfl (all_c rfl (all_c rfl (all_c rfl (all_c rfl (all_c rfl (all_c rfl all_n))))))))))))))))))))))))))))))))))))))))))))))), hS, ho_n, ?_, ?_⟩
       · omega
       · rfl
      ·
       intro m39 _ H hl40
       rw [hI38] at hl40
       obtain ⟨k, p, hm41, he42, hS, hp_n, hk, hp⟩ := hl40
       obtain ⟨e43, rfl⟩ := he42.ex
       refine AWp_seq ?_
       refine AWp_E rfl ?_
       rcases Decidable.em (((k : Nat) : Int) < 3) with hc44 | hc44
       ·
        refine ed yes rfl rfl (dv_bin rfl rfl (bi_lss_t hc44)) ?_
        refine E_nil ?_
        refine th_norm ?_
        refine AWp_seq ?_
        refine AWp_cond (t := true) rfl (fun _ => ?_) nofun
        refine AWp_skip ?_
        refine th_norm ?_
        refine AWp_seq ?_
        refine AWp_block ?_
        refine AWp_seq ?_
        refine AWp_E rfl ?_
        refine ed (iv ((k : Nat) : Int)) rfl rfl (dv_move rfl) ?_
        refine ed (iv ((k : Nat) : Int)) rfl rfl (dv_assign rfl) ?_
        refine E_nil ?_
        refine th_norm ?_
        refine AWp_seq ?_
        have hR := hS.pushes
        have hKb := hS.keep
        have hB := fun Hc (hc : Keep _ Hc) => hR [] Hc (.base hc)
        refine AWp_D0 rfl (by decide +kernel) fun hM => ?_
        refine wd (sv x32.a x32.xs.length x32.c) rfl rfl (fun _ hc => dv_move rfl) ?_
        refine wd (iv ((k : Nat) : Int)) rfl rfl (fun _ hc => dv_move rfl) ?_
        refine wd (iv ((k + 1 : Nat) : Int)) rfl rfl (fun _ hc => dv_bin rfl rfl (bi_add (by omega))) ?_
        refine wd (iv (((k + 1) % 3 : Nat) : Int)) rfl rfl (fun _ hc => dv_bin rfl rfl (bi_rem (by decide))) ?_
        obtain ⟨x45, hx45⟩ := get_el (xs := x32.xs) (i := (k + 1) % 3) (by omega)
        have ht46 := triP_get htk hx45
        unfold inP at ht46
        refine wd (sp x32.a (((k + 1) % 3) * 1)) rfl rfl (fun _ hc => dv_indexAddr (a := sv x32.a x32.xs.length x32.c) (b := iv (((k + 1) % 3 : Nat) : Int)) rfl rfl (ix_sls (n := x32.xs.length) (i := ((k + 1) % 3)) (hv33.1.keep (hKb.trans hc)) hx45 rfl rfl rfl (get_lt hx45))) ?_
        refine wd (iv x45) rfl rfl (fun _ hc => dv_load rfl (ld_sls (sz := 1) (off := 0) (hv33.1.keep (hKb.trans hc)) hx45 (fun _ => rfl) rfl rfl rfl)) ?_
        refine wd (sv x32.a x32.xs.length x32.c) rfl rfl (fun _ hc => dv_move rfl) ?_
        refine wd (iv ((k : Nat) : Int)) rfl rfl (fun _ hc => dv_move rfl) ?_
        refine wd (iv ((k + 2 : Nat) : Int)) rfl rfl (fun _ hc => dv_bin rfl rfl (bi_add (by omega))) ?_
        refine wd (iv (((k + 2) % 3 : Nat) : Int)) rfl rfl (fun _ hc => dv_bin rfl rfl (bi_rem (by decide))) ?_
        obtain ⟨x47, hx47⟩ := get_el (xs := x32.xs) (i := (k + 2) % 3) (by omega)
        have ht48 := triP_get htk hx47
        unfold inP at ht48
        refine wd (sp x32.a (((k + 2) % 3) * 1)) rfl rfl (fun _ hc => dv_indexAddr (a := sv x32.a x32.xs.length x32.c) (b := iv (((k + 2) % 3 : Nat) : Int)) rfl rfl (ix_sls (n := x32.xs.length) (i := ((k + 2) % 3)) (hv33.1.keep (hKb.trans hc)) hx47 rfl rfl rfl (get_lt hx47))) ?_
        refine wd (iv x47) rfl rfl (fun _ hc => dv_load rfl (ld_sls (sz := 1) (off := 0) (hv33.1.keep (hKb.trans hc)) hx47 (fun _ => rfl) rfl rfl rfl)) ?_
        refine wd (iv x45) rfl rfl (fun _ hc => dv_assign rfl) ?_
        refine wd (iv x47) rfl rfl (fun _ hc => dv_assign rfl) ?_
        have hS := hR _ _ hM
        refine W_nil ?_
        refine th_norm ?_
        obtain ⟨Hx, hK, hKx, hM, hR⟩ := hS.split [2, 1] rfl
        have hB := fun Hc (hc : Keep Hx Hc) => hR [] Hc (.base hc)
        refine AWp_D hKx rfl (by decide +kernel) ?_
        refine wd (.func (.func 133) #[] #[pt b6 0]) rfl rfl (fun _ hc => dv_move rfl) ?_
        refine wd (sv x32.a x32.xs.length x32.c) rfl rfl (fun _ hc => dv_move rfl) ?_
        refine wd (iv ((k : Nat) : Int)) rfl rfl (fun _ hc => dv_move rfl) ?_
        obtain ⟨x49, hx49⟩ := get_el (xs := x32.xs) (i := k) (by omega)
        have ht50 := triP_get htk hx49
        unfold inP at ht50
        refine wd (sp x32.a (k * 1)) rfl rfl (fun _ hc => dv_indexAddr (a := sv x32.a x32.xs.length x32.c) (b := iv ((k : Nat) : Int)) rfl rfl (ix_sls (n := x32.xs.length) (i := k) (hv33.1.keep (hK.trans hc)) hx49 rfl rfl rfl (get_lt hx49))) ?_
        refine wd (iv x49) rfl rfl (fun _ hc => dv_load rfl (ld_sls (sz := 1) (off := 0) (hv33.1.keep (hK.trans hc)) hx49 (fun _ => rfl) rfl rfl rfl)) ?_
        refine wd (.agg #[fl ((normalD b.m.ps x32.xs).x), fl ((normalD b.m.ps x32.xs).y), fl ((normalD b.m.ps x32.xs).z)]) rfl rfl (fun _ hc => dv_load rfl (ld_boxA (n := 3) ((hB _ hc).box 1 rfl) rfl rfl (Nat.le_of_ble_eq_true rfl) rfl)) ?_
        refine wd (sv b.m.pa b.m.pn b.m.pc) rfl rfl (fun _ hc => dv_move rfl) ?_
        refine wd (iv x47) rfl rfl (fun _ hc => dv_move rfl) ?_
        obtain ⟨x51, hx51⟩ := get_el (xs := b.m.ps) (i := (x47).toNat) (by omega)
        refine wd (sp b.m.pa (((x47).toNat) * 3)) rfl rfl (fun _ hc => dv_indexAddr (a := sv b.m.pa b.m.pn b.m.pc) (b := iv x47) rfl rfl (ix_sls (n := b.m.pn) (i := ((x47).toNat)) (hb_1_ps.keep (hK.trans hc)) hx51 rfl rfl (by omega) (by omega))) ?_
        refine wd (va x51) rfl rfl (fun _ hc => dv_load rfl (ld_slsA (sz := 3) (m := 3) (ys := [fl x51.x, fl x51.y, fl x51.z]) (off := 0) (hb_1_ps.keep (hK.trans hc)) hx51 (fun _ => rfl) rfl rfl (Nat.le_of_ble_eq_true rfl) rfl)) ?_
        refine wd (sv b.m.pa b.m.pn b.m.pc) rfl rfl (fun _ hc => dv_move rfl) ?_
        refine wd (iv x45) rfl rfl (fun _ hc => dv_move rfl) ?_
        obtain ⟨x52, hx52⟩ := get_el (xs := b.m.ps) (i := (x45).toNat) (by omega)
        refine wd (sp b.m.pa (((x45).toNat) * 3)) rfl rfl (fun _ hc => dv_indexAddr (a := sv b.m.pa b.m.pn b.m.pc) (b := iv x45) rfl rfl (ix_sls (n := b.m.pn) (i := ((x45).toNat)) (hb_1_ps.keep (hK.trans hc)) hx52 rfl rfl (by omega) (by omega))) ?_
        refine wd (va x52) rfl rfl (fun _ hc => dv_load rfl (ld_slsA (sz := 3) (m := 3) (ys := [fl x52.x, fl x52.y, fl x52.z]) (off := 0) (hb_1_ps.keep (hK.trans hc)) hx52 (fun _ => rfl) rfl rfl (Nat.le_of_ble_eq_true rfl) rfl)) ?_
        refine W_call (vs := [va x51, va x52]) rfl rfl rfl rfl rfl rfl rfl (LessVectors_ok x51 x52 _) ?_
        rintro _ H ⟨v53, rfl, rfl, hQ⟩
        have hM := hM.up hQ.keep
        refine ⟨hM.keep, ?_⟩
        refine W_call (vs := [.agg #[fl ((normalD b.m.ps x32.xs).x), fl ((normalD b.m.ps x32.xs).y), fl ((normalD b.m.ps x32.xs).z)], .agg #[fl ((vsub x51 x52).x), fl ((vsub x51 x52).y), fl ((vsub x51 x52).z)]]) rfl rfl rfl rfl rfl rfl rfl (CrossOf_ok (normalD b.m.ps x32.xs) (vsub x51 x52) _) ?_
        rintro _ H ⟨v54, rfl, rfl, hQ⟩
        have hM := hM.up hQ.keep
        refine ⟨hM.keep, ?_⟩
        refine wd (fl (fop .div .f32 (fneg .f32 (fop .mul .f32 1056964608 b.film)) (vlong (normalD b.m.ps x32.xs)))) rfl rfl (fun _ hc => dv_move rfl) ?_
        obtain ⟨Hy, hKy, _, hN, hQ⟩ := hM.split [0, 1] rfl
        have hY := hQ [] _ (SepL.refl Hy)
        refine W_callF (k := 133) (cs := [pt b6 0]) (vs := [iv x49, .agg #[fl ((vcross (normalD b.m.ps x32.xs) (vsub x51 x52)).x), fl ((vcross (normalD b.m.ps x32.xs) (vsub x51 x52)).y), fl ((vcross (normalD b.m.ps x32.xs) (vsub x51 x52)).z)], fl (fop .div .f32 (fneg .f32 (fop .mul .f32 1056964608 b.film)) (vlong (normalD b.m.ps x32.xs)))]) rfl rfl rfl rfl rfl rfl rfl rfl (push_ok x49 (vcross (normalD b.m.ps x32.xs) (vsub x51 x52)) (fop .div .f32 (fneg .f32 (fop .mul .f32 1056964608 b.film)) (vlong (normalD b.m.ps x32.xs))) b6 a2 b.m.pn b.m.pn p _ _ hp_n (by omega) hN (by first | assumption | omega | (simp only [*]; assumption) | (simp_all; done))) ?_
        rintro _ H ⟨y55, h56, h57, rfl, hP⟩
        have hlh56 := congrArg List.length h56
        have hM : SepL _ [box b6 [sv a2 b.m.pn b.m.pn] 37, sl encV 41 3 a2 b.m.pn y55] H := hQ _ _ hP
        refine ⟨hM.keep, ?_⟩
        have hS := hR _ _ hM
        refine W_nil ?_
        refine bl_norm ?_
        refine th_norm ?_
        refine AWp_E rfl ?_
        refine ed (iv ((k + 1 : Nat) : Int)) rfl rfl (dv_bin rfl rfl (bi_add (by omega))) ?_
        refine ed (iv ((k + 1 : Nat) : Int)) rfl rfl (dv_move rfl) ?_
        refine E_nil ?_
        refine loop_next (I := I38) (3 - (k + 1)) (by rw [hm41]; omega) ?_
        rw [hI38]
        refine ⟨k + 1, y55, rfl, (all_c rfl (all_c rfl (all_c rfl (all_c rfl (all_c rfl (all_c rfl (all_c rfl (all_c rfl (all_c rfl (all_c rfl (all_c rfl (all_c rfl (all_c rfl (all_c rfl (all_c rfl (all_c rfl (all_c rfl (all_c rfl (all_c rfl (all_c rfl (all_c rfl (all_c rfl (all_c rfl (all_c rfl (all_c rfl (all_c rfl (all_c rfl (all_c rfl (all_c rfl (all_c rfl (all_c rfl (all_c rfl (all_c rfl (all_c rfl (all_c rfl (all_c rfl (all_c rfl (all_c rfl (all_c rfl (all_c rfl (all_c rfl (all_c rfl (all_c rfl (all_c rfl (all_c rfl (all_c rfl (all_c rfl all_n))))))))))))))))))))))))))))))))))))))))))))))), (hS.pick [0, 3, 2, 1] rfl), h57, ?_, ?_⟩
        · omega
        · refine iter_to hp ?_
          rw [h56]
          simp only [side, push, LB.d, LM.d, rxs, Msh.hinges, Int.toNat_natCast, gD [] (map_get (f := Row.xs) hx32), gD 0 hx45, gD 0 hx47, gD 0 hx49, at3_of hx51, at3_of hx52]
       ·
        refine ed no rfl rfl (dv_bin rfl rfl (bi_lss_f hc44)) ?_
        refine E_nil ?_
        refine th_norm ?_
        refine AWp_seq ?_
        refine AWp_cond (t := false) rfl nofun (fun _ => ?_)
        refine AWp_exit (th_exit (th_exit (bl_exit (?_))))
        refine bl_norm ?_
        refine th_norm ?_
        refine AWp_E rfl ?_
        refine ed (iv ((j + 1 : Nat) : Int)) rfl rfl (dv_bin rfl rfl (bi_add (by omega))) ?_
        refine ed (iv ((j + 1 : Nat) : Int)) rfl rfl (dv_move rfl) ?_
        refine E_nil ?_
        refine loop_next (I := I25) (b.m.tn - (j + 1)) (by rw [hm28]; omega) ?_
        rw [hI25]
        refine ⟨j + 1, p, rfl, (all_c rfl (all_c rfl (all_c rfl (all_c rfl (all_c rfl (all_c rfl (all_c rfl (all_c rfl (all_c rfl (all_c rfl (all_c rfl (all_c rfl (all_c rfl (all_c rfl (all_c rfl (all_c rfl (all_c rfl (all_c rfl (all_c rfl (all_c rfl (all_c rfl (all_c rfl (all_c rfl (all_c rfl (all_c rfl all_n))))))))))))))))))))))))), (hS.pick [0, 1, 2] rfl), hp_n, ?_, ?_⟩
        · omega
        · have hk3 : k = 3 := by omega
          refine iter_to ho ?_
          rw [hp, hk3]
          simp only [force1, gain, hc37, if_true, Bool.false_eq_true, if_false, LB.d, LM.d, rxs, Msh.hinges, Int.toNat_natCast, gD [] (map_get (f := Row.xs) hx32)]
     ·
      refine ed no rfl rfl (dv_bin rfl rfl (isB bf_gtr hc37)) ?_
      refine E_nil ?_
      refine th_norm ?_
      refine AWp_cond (t := false) rfl nofun (fun _ => ?_)
      refine AWp_skip ?_
      refine th_norm ?_
      refine AWp_seq ?_
      refine AWp_E rfl ?_
      refine ed (iv 0) rfl rfl (dv_move rfl) ?_
      refine E_nil ?_
      refine th_norm ?_
      refine AWp_block ?_
      obtain ⟨I58, hI58⟩ : ∃ I : Nat → Env → AH → Prop, ∀ m_ e_ Hl, I m_ e_ Hl = (∃ (k : Nat) (p : List (V3)), m_ = 3 - k ∧ AllE [(0, bva b), (1, pt b1 0), (2, sv none 0 0), (3, pt b6 0), (4, .func (.func 133) #[] #[pt b6 0]), (9, sv b.m.pa b.m.pn b.m.pc), (11, sv x32.a x32.xs.length x32.c), (12, pt b35 0), (13, fl 0), (14, fl (vlong (normalD b.m.ps x32.xs))), (23, pt b1 0), (24, pt b1 0), (25, sv b.m.pa b.m.pn b.m.pc), (26, iv ((b.m.pn : Nat) : Int)), (27, sv a2 b.m.pn b.m.pn), (28, .func (.func 133) #[] #[pt b6 0]), (29, pt b1 2), (30, sv b.sa b.sn b.sc), (31, iv ((b.sn : Nat) : Int)), (32, iv ((i : Nat) : Int)), (33, no), (56, pt b1 0), (57, pt b1 0), (58, sv b.m.pa b.m.pn b.m.pc), (59, pt b1 0), (60, pt b1 1), (61, sv b.m.ta b.m.tn b.m.tc), (62, iv ((b.m.tn : Nat) : Int)), (63, iv ((j : Nat) : Int)), (64, yes), (65, sp b.m.ta (j * 1)), (66, sv x32.a x32.xs.length x32.c), (67, pt b1 0), (68, mva b.m), (69, sv x32.a x32.xs.length x32.c), (70, .agg #[fl ((normalD b.m.ps x32.xs).x), fl ((normalD b.m.ps x32.xs).y), fl ((normalD b.m.ps x32.xs).z)]), (71, .agg #[fl ((normalD b.m.ps x32.xs).x), fl ((normalD b.m.ps x32.xs).y), fl ((normalD b.m.ps x32.xs).z)]), (72, fl (vlong (normalD b.m.ps x32.xs))), (73, fl (vlong (normalD b.m.ps x32.xs))), (74, no), (81, iv ((k : Nat) : Int))] e_ ∧ SepL H0 [box b1 [sv b.m.pa b.m.pn b.m.pc, sv b.m.ta b.m.tn b.m.tc, sv b.sa b.sn b.sc, fl b.film, fl b.bend, sv b.wa b.wn b.wc, fl b.fall.x, fl b.fall.y, fl b.fall.z] 43, sl encV 41 3 a2 b.m.pn p, box b6 [sv a2 b.m.pn b.m.pn] 37, box b35 [fl ((normalD b.m.ps x32.xs).x), fl ((normalD b.m.ps x32.xs).y), fl ((normalD b.m.ps x32.xs).z)] 41] Hl ∧ p.length = b.m.pn ∧ (k ≤ 3) ∧ (p = iter (side b.m.ps x32.xs (normalD b.m.ps x32.xs) 0) o k)) := ⟨_, fun _ _ _ => rfl⟩
      refine AWp_loop I58 (3 - (0)) ?_ ?_
      ·
       rw [hI58]
       refine ⟨0, o, rfl, (all_c rfl (all_c rfl (all_c rfl (all_c rfl (all_c rfl (all_c rfl (all_c rfl (all_c rfl (all_c rfl (all_c rfl (all_c rfl (all_c rfl (all_c rfl (all_c rfl (all_c rfl (all_c rfl (all_c rfl (all_c rfl (all_c rfl (all_c rfl (all_c rfl (all_c rfl (all_c rfl (all_c rfl (all_c rfl (all_c rfl (all_c rfl (all_c rfl (all_c rfl (all_c rfl (all_c rfl (all_c rfl (all_c rfl (all_c rfl (all_c rfl (all_c rfl (all_c rfl (all_c rfl (all_c rfl (all_c rfl (all_c rfl all_n))))))))))))))))))))))))))))))))))))))))), hS, ho_n, ?_, ?_⟩
       · omega
       · rfl
      ·
       intro m59 _ H hl60
       rw [hI58] at hl60
       obtain ⟨k, p, hm61, he62, hS, hp_n, hk, hp⟩ := hl60
       obtain ⟨e63, rfl⟩ := he62.ex
       refine AWp_seq ?_
       refine AWp_E rfl ?_
       rcases Decidable.em (((k : Nat) : Int) < 3) with hc64 | hc64
       ·
        refine ed yes rfl rfl (dv_bin rfl rfl (bi_lss_t hc64)) ?_
        refine E_nil ?_
        refine th_norm ?_
        refine AWp_seq ?_
        refine AWp_cond (t := true) rfl (fun _ => ?_) nofun
        refine AWp_skip ?_
        refine th_norm ?_
        refine AWp_seq ?_
        refine AWp_block ?_
        refine AWp_seq ?_
        refine AWp_E rfl ?_
        refine ed (iv ((k : Nat) : Int)) rfl rfl (dv_move rfl) ?_
        refine ed (iv ((k : Nat) : Int)) rfl rfl (dv_assign rfl) ?_
        refine E_nil ?_
        refine th_norm ?_
        refine AWp_seq ?_
        have hR := hS.pushes
        have hKb := hS.keep
        have hB := fun Hc (hc : Keep _ Hc) => hR [] Hc (.base hc)
        refine AWp_D0 rfl (by decide +kernel) fun hM => ?_
        refine wd (sv x32.a x32.xs.length x32.c) rfl rfl (fun _ hc => dv_move rfl) ?_
        refine wd (iv ((k : Nat) : Int)) rfl rfl (fun _ hc => dv_move rfl) ?_
        refine wd (iv ((k + 1 : Nat) : Int)) rfl rfl (fun _ hc => dv_bin rfl rfl (bi_add (by omega))) ?_
        refine wd (iv (((k + 1) % 3 : Nat) : Int)) rfl rfl (fun _ hc => dv_bin rfl rfl (bi_rem (by decide))) ?_
        obtain ⟨x65, hx65⟩ := get_el (xs := x32.xs) (i := (k + 1) % 3) (by omega)
        have ht66 := triP_get htk hx65
        unfold inP at ht66
        refine wd (sp x32.a (((k + 1) % 3) * 1)) rfl rfl (fun _ hc => dv_indexAddr (a := sv x32.a x32.xs.length x32.c) (b := iv (((k + 1) % 3 : Nat) : Int)) rfl rfl (ix_sls (n := x32.xs.length) (i := ((k + 1) % 3)) (hv33.1.keep (hKb.trans hc)) hx65 rfl rfl rfl (get_lt hx65))) ?_
        refine wd (iv x65) rfl rfl (fun _ hc => dv_load rfl (ld_sls (sz := 1) (off := 0) (hv33.1.keep (hKb.trans hc)) hx65 (fun _ => rfl) rfl rfl rfl)) ?_
        refine wd (sv x32.a x32.xs.length x32.c) rfl rfl (fun _ hc => dv_move rfl) ?_
        refine wd (iv ((k : Nat) : Int)) rfl rfl (fun _ hc => dv_move rfl) ?_
        refine wd (iv ((k + 2 : Nat) : Int)) rfl rfl (fun _ hc => dv_bin rfl rfl (bi_add (by omega))) ?_
        refine wd (iv (((k + 2) % 3 : Nat) : Int)) rfl rfl (fun _ hc => dv_bin rfl rfl (bi_rem (by decide))) ?_
        obtain ⟨x67, hx67⟩ := get_el (xs := x32.xs) (i := (k + 2) % 3) (by omega)
        have ht68 := triP_get htk hx67
        unfold inP at ht68
        refine wd (sp x32.a (((k + 2) % 3) * 1)) rfl rfl (fun _ hc => dv_indexAddr (a := sv x32.a x32.xs.length x32.c) (b := iv (((k + 2) % 3 : Nat) : Int)) rfl rfl (ix_sls (n := x32.xs.length) (i := ((k + 2) % 3)) (hv33.1.keep (hKb.trans hc)) hx67 rfl rfl rfl (get_lt hx67))) ?_
        refine wd (iv x67) rfl rfl (fun _ hc => dv_load rfl (ld_sls (sz := 1) (off := 0) (hv33.1.keep (hKb.trans hc)) hx67 (fun _ => rfl) rfl rfl rfl)) ?_
        refine wd (iv x65) rfl rfl (fun _ hc => dv_assign rfl) ?_
        refine wd (iv x67) rfl rfl (fun _ hc => dv_assign rfl) ?_
        have hS := hR _ _ hM
        refine W_nil ?_
        refine th_norm ?_
        obtain ⟨Hx, hK, hKx, hM, hR⟩ := hS.split [2, 1] rfl
        have hB := fun Hc (hc : Keep Hx Hc) => hR [] Hc (.base hc)
        refine AWp_D hKx rfl (by decide +kernel) ?_
        refine wd (.func (.func 133) #[] #[pt b6 0]) rfl rfl (fun _ hc => dv_move rfl) ?_
        refine wd (sv x32.a x32.xs.length x32.c) rfl rfl (fun _ hc => dv_move rfl) ?_
        refine wd (iv ((k : Nat) : Int)) rfl rfl (fun _ hc => dv_move rfl) ?_
        obtain ⟨x69, hx69⟩ := get_el (xs := x32.xs) (i := k) (by omega)
        have ht70 := triP_get htk hx69
        unfold inP at ht70
        refine wd (sp x32.a (k * 1)) rfl rfl (fun _ hc => dv_indexAddr (a := sv x32.a x32.xs.length x32.c) (b := iv ((k : Nat) : Int)) rfl rfl (ix_sls (n := x32.xs.length) (i := k) (hv33.1.keep (hK.trans hc)) hx69 rfl rfl rfl (get_lt hx69))) ?_
        refine wd (iv x69) rfl rfl (fun _ hc => dv_load rfl (ld_sls (sz := 1) (off := 0) (hv33.1.keep (hK.trans hc)) hx69 (fun _ => rfl) rfl rfl rfl)) ?_
        refine wd (.agg #[fl ((normalD b.m.ps x32.xs).x), fl ((normalD b.m.ps x32.xs).y), fl ((normalD b.m.ps x32.xs).z)]) rfl rfl (fun _ hc => dv_load rfl (ld_boxA (n := 3) ((hB _ hc).box 1 rfl) rfl rfl (Nat.le_of_ble_eq_true rfl) rfl)) ?_
        refine wd (sv b.m.pa b.m.pn b.m.pc) rfl rfl (fun _ hc => dv_move rfl) ?_
        refine wd (iv x67) rfl rfl (fun _ hc => dv_move rfl) ?_
        obtain ⟨x71, hx71⟩ := get_el (xs := b.m.ps) (i := (x67).toNat) (by omega)
        refine wd (sp b.m.pa (((x67).toNat) * 3)) rfl rfl (fun _ hc => dv_indexAddr (a := sv b.m.pa b.m.pn b.m.pc) (b := iv x67) rfl rfl (ix_sls (n := b.m.pn) (i := ((x67).toNat)) (hb_1_ps.keep (hK.trans hc)) hx71 rfl rfl (by omega) (by omega))) ?_
        refine wd (va x71) rfl rfl (fun _ hc => dv_load rfl (ld_slsA (sz := 3) (m := 3) (ys := [fl x71.x, fl x71.y, fl x71.z]) (off := 0) (hb_1_ps.keep (hK.trans hc)) hx71 (fun _ => rfl) rfl rfl (Nat.le_of_ble_eq_true rfl) rfl)) ?_
        refine wd (sv b.m.pa b.m.pn b.m.pc) rfl rfl (fun _ hc => dv_move rfl) ?_
        refine wd (iv x65) rfl rfl (fun _ hc => dv_move rfl) ?_
        obtain ⟨x72, hx72⟩ := get_el (xs := b.m.ps) (i := (x65).toNat) (by omega)
        refine wd (sp b.m.pa (((x65).toNat) * 3)) rfl rfl (fun _ hc => dv_indexAddr (a := sv b.m.pa b.m.pn b.m.pc) (b := iv x65) rfl rfl (ix_sls (n := b.m.pn) (i := ((x65).toNat)) (hb_1_ps.keep (hK.trans hc)) hx72 rfl rfl (by omega) (by omega))) ?_
        refine wd (va x72) rfl rfl (fun _ hc => dv_load rfl (ld_slsA (sz := 3) (m := 3) (ys := [fl x72.x, fl x72.y, fl x72.z]) (off := 0) (hb_1_ps.keep (hK.trans hc)) hx72 (fun _ => rfl) rfl rfl (Nat.le_of_ble_eq_true rfl) rfl)) ?_
        refine W_call (vs := [va x71, va x72]) rfl rfl rfl rfl rfl rfl rfl (LessVectors_ok x71 x72 _) ?_
        rintro _ H ⟨v73, rfl, rfl, hQ⟩
        have hM := hM.up hQ.keep
        refine ⟨hM.keep, ?_⟩
        refine W_call (vs := [.agg #[fl ((normalD b.m.ps x32.xs).x), fl ((normalD b.m.ps x32.xs).y), fl ((normalD b.m.ps x32.xs).z)], .agg #[fl ((vsub x71 x72).x), fl ((vsub x71 x72).y), fl ((vsub x71 x72).z)]]) rfl rfl rfl rfl rfl rfl rfl (CrossOf_ok (normalD b.m.ps x32.xs) (vsub x71 x72) _) ?_
        rintro _ H ⟨v74, rfl, rfl, hQ⟩
        have hM := hM.up hQ.keep
        refine ⟨hM.keep, ?_⟩
        refine wd (fl 0) rfl rfl (fun _ hc => dv_move rfl) ?_
        obtain ⟨Hy, hKy, _, hN, hQ⟩ := hM.split [0, 1] rfl
        have hY := hQ [] _ (SepL.refl Hy)
        refine W_callF (k := 133) (cs := [pt b6 0]) (vs := [iv x69, .agg #[fl ((vcross (normalD b.m.ps x32.xs) (vsub x71 x72)).x), fl ((vcross (normalD b.m.ps x32.xs) (vsub x71 x72)).y), fl ((vcross (normalD b.m.ps x32.xs) (vsub x71 x72)).z)], fl 0]) rfl rfl rfl rfl rfl rfl rfl rfl (push_ok x69 (vcross (normalD b.m.ps x32.xs) (vsub x71 x72)) 0 b6 a2 b.m.pn b.m.pn p _ _ hp_n (by omega) hN (by first | assumption | omega | (simp only [*]; assumption) | (simp_all; done))) ?_
        rintro _ H ⟨y75, h76, h77, rfl, hP⟩
        have hlh76 := congrArg List.length h76
        have hM : SepL _ [box b6 [sv a2 b.m.pn b.m.pn] 37, sl encV 41 3 a2 b.m.pn y75] H := hQ _ _ hP
        refine ⟨hM.keep, ?_⟩
        have hS := hR _ _ hM
        refine W_nil ?_
        refine bl_norm ?_
        refine th_norm ?_
        refine AWp_E rfl ?_
        refine ed (iv ((k + 1 : Nat) : Int)) rfl rfl (dv_bin rfl rfl (bi_add (by omega))) ?_
        refine ed (iv ((k + 1 : Nat) : Int)) rfl rfl (dv_move rfl) ?_
        refine E_nil ?_
        refine loop_next (I := I58) (3 - (k + 1)) (by rw [hm61]; omega) ?_
        rw [hI58]
        refine ⟨k + 1, y75, rfl, (all_c rfl (all_c rfl (all_c rfl (all_c rfl (all_c rfl (all_c rfl (all_c rfl (all_c rfl (all_c rfl (all_c rfl (all_c rfl (all_c rfl (all_c rfl (all_c rfl (all_c rfl (all_c rfl (all_c rfl (all_c rfl (all_c rfl (all_c rfl (all_c rfl (all_c rfl (all_c rfl (all_c rfl (all_c rfl (all_c rfl (all_c rfl (all_c rfl (all_c rfl (all_c rfl (all_c rfl (all_c rfl (all_c rfl (all_c rfl (all_c rfl (all_c rfl (all_c rfl (all_c rfl (all_c rfl (all_c rfl (all_c rfl all_n))))))))))))))))))))))))))))))))))))))))), (hS.pick [0, 3, 2, 1] rfl), h77, ?_, ?_⟩
        · omega
        · refine iter_to hp ?_
          rw [h76]
          simp only [side, push, LB.d, LM.d, rxs, Msh.hinges, Int.toNat_natCast, gD [] (map_get (f := Row.xs) hx32), gD 0 hx65, gD 0 hx67, gD 0 hx69, at3_of hx71, at3_of hx72]
       ·
        refine ed no rfl rfl (dv_bin rfl rfl (bi_lss_f hc64)) ?_
        refine E_nil ?_
        refine th_norm ?_
        refine AWp_seq ?_
        refine AWp_cond (t := false) rfl nofun (fun _ => ?_)
        refine AWp_exit (th_exit (th_exit (bl_exit (?_))))
        refine bl_norm ?_
        refine th_norm ?_
        refine AWp_E rfl ?_
        refine ed (iv ((j + 1 : Nat) : Int)) rfl rfl (dv_bin rfl rfl (bi_add (by omega))) ?_
        refine ed (iv ((j + 1 : Nat) : Int)) rfl rfl (dv_move rfl) ?_
        refine E_nil ?_
        refine loop_next (I := I25) (b.m.tn - (j + 1)) (by rw [hm28]; omega) ?_
        rw [hI25]
        refine ⟨j + 1, p, rfl, (all_c rfl (all_c rfl (all_c rfl (all_c rfl (all_c rfl (all_c rfl (all_c rfl (all_c rfl (all_c rfl (all_c rfl (all_c rfl (all_c rfl (all_c rfl (all_c rfl (all_c rfl (all_c rfl (all_c rfl (all_c rfl (all_c rfl (all_c rfl (all_c rfl (all_c rfl (all_c rfl (all_c rfl (all_c rfl all_n))))))))))))))))))))))))), (hS.pick [0, 1, 2] rfl), hp_n, ?_, ?_⟩
        · omega
        · have hk3 : k = 3 := by omega
          refine iter_to ho ?_
          rw [hp, hk3]
          simp only [force1, gain, hc37, if_true, Bool.false_eq_true, if_false, LB.d, LM.d, rxs, Msh.hinges, Int.toNat_natCast, gD [] (map_get (f := Row.xs) hx32)]
    ·
     refine ed no rfl rfl (dv_bin rfl rfl (bi_lss_f hc31)) ?_
     refine E_nil ?_
     refine th_norm ?_
     refine AWp_seq ?_
     refine AWp_cond (t := false) rfl nofun (fun _ => ?_)
     refine AWp_exit (th_exit (th_exit (bl_exit (?_))))
     refine th_norm ?_
     refine AWp_seq ?_
     refine AWp_seq ?_
     refine AWp_E rfl ?_
     refine ed (pt b1 0) rfl rfl (dv_fieldAddr rfl rfl) ?_
     refine ed (mva b.m) rfl rfl (dv_load rfl (ld_boxA (n := 2) (hS.box 0 rfl) rfl rfl (Nat.le_of_ble_eq_true rfl) rfl)) ?_
     refine E_call (vs := [mva b.m]) rfl rfl rfl rfl rfl rfl rfl (hingesOf_ok b.m _ (hb.1.keep hS.keep) (by first | assumption | omega | (simp only [*]; assumption) | (simp_all; done))) ?_
     rintro _ H ⟨x78, x79, x80, x81, h82, rfl, h83, rfl, hQ⟩
     have hS := hS.push hQ
     refine ed (iv ((x81.length : Nat) : Int)) rfl rfl (dv_len rfl rfl rfl rfl rfl) ?_
     refine ed (iv 0) rfl rfl (dv_move rfl) ?_
     refine E_nil ?_
     refine th_norm ?_
     refine AWp_block ?_
     have hqh : x81.length = (hingesD b.m.ps.length (rxs b.m.ts)).length := by simpa [rxs] using congrArg List.length h82
     obtain ⟨I84, hI84⟩ : ∃ I : Nat → Env → AH → Prop, ∀ m_ e_ Hl, I m_ e_ Hl = (∃ (l : Nat) (o : List (V3)), m_ = x81.length - l ∧ AllE [(0, bva b), (1, pt b1 0), (2, sv none 0 0), (3, pt b6 0), (4, .func (.func 133) #[] #[pt b6 0]), (9, sv b.m.pa b.m.pn b.m.pc), (23, pt b1 0), (24, pt b1 0), (25, sv b.m.pa b.m.pn b.m.pc), (26, iv ((b.m.pn : Nat) : Int)), (27, sv a2 b.m.pn b.m.pn), (28, .func (.func 133) #[] #[pt b6 0]), (29, pt b1 2), (30, sv b.sa b.sn b.sc), (31, iv ((b.sn : Nat) : Int)), (32, iv ((i : Nat) : Int)), (33, no), (56, pt b1 0), (57, pt b1 0), (58, sv b.m.pa b.m.pn b.m.pc), (59, pt b1 0), (60, pt b1 1), (61, sv b.m.ta b.m.tn b.m.tc), (62, iv ((b.m.tn : Nat) : Int)), (63, iv ((j : Nat) : Int)), (64, no), (116, pt b1 0), (117, mva b.m), (118, sv x78 x81.length x80), (119, iv ((x81.length : Nat) : Int)), (120, iv ((l : Nat) : Int))] e_ ∧ SepL H0 [box b1 [sv b.m.pa b.m.pn b.m.pc, sv b.m.ta b.m.tn b.m.tc, sv b.sa b.sn b.sc, fl b.film, fl b.bend, sv b.wa b.wn b.wc, fl b.fall.x, fl b.fall.y, fl b.fall.z] 43, sl encV 41 3 a2 b.m.pn o, box b6 [sv a2 b.m.pn b.m.pn] 37, sl encR 53 1 x78 x80 x81, rowsE 2 x81] Hl ∧ o.length = b.m.pn ∧ (l ≤ x81.length) ∧ (o = (iter (force2 b.d) (iter (force1 b.d) (iter (force0 b.d) (List.replicate b.m.ps.length v0) b.ss.length) (rxs b.m.ts).length) l))) := ⟨_, fun _ _ _ => rfl⟩
     refine AWp_loop I84 (x81.length - (0)) ?_ ?_
     ·
      rw [hI84]
      refine ⟨0, o, rfl, (all_c rfl (all_c rfl (all_c rfl (all_c rfl (all_c rfl (all_c rfl (all_c rfl (all_c rfl (all_c rfl (all_c rfl (all_c rfl (all_c rfl (all_c rfl (all_c rfl (all_c rfl (all_c rfl (all_c rfl (all_c rfl (all_c rfl (all_c rfl (all_c rfl (all_c rfl (all_c rfl (all_c rfl (all_c rfl (all_c rfl (all_c rfl (all_c rfl (all_c rfl (all_c rfl (all_c rfl all_n))))))))))))))))))))))))))))))), hS, ho_n, ?_, ?_⟩
      · omega
      · have hii : j = (rxs b.m.ts).length := by rw [rxs, List.length_map]; omega
        rw [ho, hii]; rfl
     ·
      intro m85 _ H hl86
      rw [hI84] at hl86
      obtain ⟨l, o, hm87, he88, hS, ho_n, hi, ho⟩ := hl86
      obtain ⟨e89, rfl⟩ := he88.ex
      refine AWp_seq ?_
      refine AWp_E rfl ?_
      rcases Decidable.em (((l : Nat) : Int) < ((x81.length : Nat) : Int)) with hc90 | hc90
      ·
       refine ed yes rfl rfl (dv_bin rfl rfl (bi_lss_t hc90)) ?_
       refine E_nil ?_
       refine th_norm ?_
       refine AWp_seq ?_
       refine AWp_cond (t := true) rfl (fun _ => ?_) nofun
       refine AWp_skip ?_
       refine th_norm ?_
       refine AWp_seq ?_
       refine AWp_block ?_
       refine AWp_seq ?_
       refine AWp_E rfl ?_
       obtain ⟨x91, hx91⟩ := get_el (xs := x81) (i := l) (by omega)
       have hhk := hinges_ok hbm (rows_get h82 hx91)
       have hhk4 := hhk.1
       refine ed (sp x78 (l * 1)) rfl rfl (dv_indexAddr (a := sv x78 x81.length x80) (b := iv ((l : Nat) : Int)) rfl rfl (ix_sls (n := x81.length) (i := l) (hS.sls 3 rfl) hx91 rfl rfl rfl (get_lt hx91))) ?_
       refine ed (sv x91.a x91.xs.length x91.c) rfl rfl (dv_load rfl (ld_sls (sz := 1) (off := 0) (hS.sls 3 rfl) hx91 (fun _ => rfl) rfl rfl rfl)) ?_
       refine ed (sv x91.a x91.xs.length x91.c) rfl rfl (dv_assign rfl) ?_
       refine E_nil ?_
       refine th_norm ?_
       refine AWp_seq ?_
       refine AWp_E rfl ?_
       refine ed (pt b1 0) rfl rfl (dv_fieldAddr rfl rfl) ?_
       refine ed (mva b.m) rfl rfl (dv_load rfl (ld_boxA (n := 2) (hS.box 0 rfl) rfl rfl (Nat.le_of_ble_eq_true rfl) rfl)) ?_
       refine ed (sv x91.a x91.xs.length x91.c) rfl rfl (dv_move rfl) ?_
       refine E_call (vs := [mva b.m, sv x91.a x91.xs.length x91.c]) rfl rfl rfl rfl rfl rfl rfl (bendOf_ok b.m x91.a x91.xs.length x91.c x91.xs _ (hb.1.keep hS.keep) ⟨(rowsE_sls (hS.at (i := 4) rfl) hx91), rfl, h83 _ (List.mem_of_getElem? hx91)⟩ (by first | assumption | omega | (simp only [*]; assumption) | (simp_all; done))) ?_
       rintro _ H ⟨v92, rfl, rfl, hQ⟩
       have hS := hS.up hQ.keep
       refine S_box (l := [fl 0, fl 0, fl 0]) hS rfl rfl rfl rfl rfl fun b93 H hS => ?_
       refine S_store (i := 5) (yv := .agg #[fl ((bentD b.m.ps x91.xs).x), fl ((bentD b.m.ps x91.xs).y), fl ((bentD b.m.ps x91.xs).z)]) (l' := [fl ((bentD b.m.ps x91.xs).x), fl ((bentD b.m.ps x91.xs).y), fl ((bentD b.m.ps x91.xs).z)]) hS rfl rfl rfl rfl rfl rfl rfl rfl rfl rfl rfl rfl fun H hS => ?_
       refine E_nil ?_
       refine th_norm ?_
       refine AWp_seq ?_
       obtain ⟨Hx, hK, hKx, hM, hR⟩ := hS.split [2, 1] rfl
       have hB := fun Hc (hc : Keep Hx Hc) => hR [] Hc (.base hc)
       refine AWp_D hKx rfl (by decide +kernel) ?_
       refine wd (.func (.func 133) #[] #[pt b6 0]) rfl rfl (fun _ hc => dv_move rfl) ?_
       refine wd (sv x91.a x91.xs.length x91.c) rfl rfl (fun _ hc => dv_move rfl) ?_
       obtain ⟨x94, hx94⟩ := get_el (xs := x91.xs) (i := 0) (by omega)
       have ht95 := hinP_get hhk hx94
       refine wd (sp x91.a (0 * 1)) rfl rfl (fun _ hc => dv_indexAddr (a := sv x91.a x91.xs.length x91.c) (b := iv 0) rfl rfl (ix_sls (n := x91.xs.length) (i := 0) (rowsE_sls ((hB _ hc).at (i := 2) rfl) hx91) hx94 rfl rfl rfl (get_lt hx94))) ?_
       refine wd (iv x94) rfl rfl (fun _ hc => dv_load rfl (ld_sls (sz := 1) (off := 0) (rowsE_sls ((hB _ hc).at (i := 2) rfl) hx91) hx94 (fun _ => rfl) rfl rfl rfl)) ?_
       refine wd (.agg #[fl ((bentD b.m.ps x91.xs).x), fl ((bentD b.m.ps x91.xs).y), fl ((bentD b.m.ps x91.xs).z)]) rfl rfl (fun _ hc => dv_load rfl (ld_boxA (n := 3) ((hB _ hc).box 3 rfl) rfl rfl (Nat.le_of_ble_eq_true rfl) rfl)) ?_
       refine wd (pt b1 4) rfl rfl (fun _ hc => dv_fieldAddr rfl rfl) ?_
       refine wd (fl b.bend) rfl rfl (fun _ hc => dv_load rfl (ld_box ((hB _ hc).box 0 rfl) rfl rfl rfl)) ?_
       obtain ⟨Hy, hKy, _, hN, hQ⟩ := hM.split [0, 1] rfl
       have hY := hQ [] _ (SepL.refl Hy)
       refine W_callF (k := 133) (cs := [pt b6 0]) (vs := [iv x94, .agg #[fl ((bentD b.m.ps x91.xs).x), fl ((bentD b.m.ps x91.xs).y), fl ((bentD b.m.ps x91.xs).z)], fl b.bend]) rfl rfl rfl rfl rfl rfl rfl rfl (push_ok x94 (bentD b.m.ps x91.xs) b.bend b6 a2 b.m.pn b.m.pn o _ _ ho_n (by omega) hN (by first | assumption | omega | (simp only [*]; assumption) | (simp_all; done))) ?_
       rintro _ H ⟨y96, h97, h98, rfl, hP⟩
       have hlh97 := congrArg List.length h97
       have hM : SepL _ [box b6 [sv a2 b.m.pn b.m.pn] 37, sl encV 41 3 a2 b.m.pn y96] H := hQ _ _ hP
       refine ⟨hM.keep, ?_⟩
       have hS := hR _ _ hM
       refine W_nil ?_
       refine th_norm ?_
       refine AWp_seq ?_
       obtain ⟨Hx, hK, hKx, hM, hR⟩ := hS.split [4, 5] rfl
       have hB := fun Hc (hc : Keep Hx Hc) => hR [] Hc (.base hc)
       refine AWp_D hKx rfl (by decide +kernel) ?_
       refine wd (.func (.func 133) #[] #[pt b6 0]) rfl rfl (fun _ hc => dv_move rfl) ?_
       refine wd (sv x91.a x91.xs.length x91.c) rfl rfl (fun _ hc => dv_move rfl) ?_
       obtain ⟨x99, hx99⟩ := get_el (xs := x91.xs) (i := 1) (by omega)
       have ht100 := hinP_get hhk hx99
       refine wd (sp x91.a (1 * 1)) rfl rfl (fun _ hc => dv_indexAddr (a := sv x91.a x91.xs.length x91.c) (b := iv 1) rfl rfl (ix_sls (n := x91.xs.length) (i := 1) (rowsE_sls ((hB _ hc).at (i := 2) rfl) hx91) hx99 rfl rfl rfl (get_lt hx99))) ?_
       refine wd (iv x99) rfl rfl (fun _ hc => dv_load rfl (ld_sls (sz := 1) (off := 0) (rowsE_sls ((hB _ hc).at (i := 2) rfl) hx91) hx99 (fun _ => rfl) rfl rfl rfl)) ?_
       refine wd (.agg #[fl ((bentD b.m.ps x91.xs).x), fl ((bentD b.m.ps x91.xs).y), fl ((bentD b.m.ps x91.xs).z)]) rfl rfl (fun _ hc => dv_load rfl (ld_boxA (n := 3) ((hB _ hc).box 3 rfl) rfl rfl (Nat.le_of_ble_eq_true rfl) rfl)) ?_
       refine wd (pt b1 4) rfl rfl (fun _ hc => dv_fieldAddr rfl rfl) ?_
       refine wd (fl b.bend) rfl rfl (fun _ hc => dv_load rfl (ld_box ((hB _ hc).box 0 rfl) rfl rfl rfl)) ?_
       obtain ⟨Hy, hKy, _, hN, hQ⟩ := hM.split [0, 1] rfl
       have hY := hQ [] _ (SepL.refl Hy)
       refine W_callF (k := 133) (cs := [pt b6 0]) (vs := [iv x99, .agg #[fl ((bentD b.m.ps x91.xs).x), fl ((bentD b.m.ps x91.xs).y), fl ((bentD b.m.ps x91.xs).z)], fl b.bend]) rfl rfl rfl rfl rfl rfl rfl rfl (push_ok x99 (bentD b.m.ps x91.xs) b.bend b6 a2 b.m.pn b.m.pn y96 _ _ h98 (by omega) hN (by first | assumption | omega | (simp only [*]; assumption) | (simp_all; done))) ?_
       rintro _ H ⟨y101, h102, h103, rfl, hP⟩
       have hlh102 := congrArg List.length h102
       have hM : SepL _ [box b6 [sv a2 b.m.pn b.m.pn] 37, sl encV 41 3 a2 b.m.pn y101] H := hQ _ _ hP
       refine ⟨hM.keep, ?_⟩
       have hS := hR _ _ hM
       refine W_nil ?_
       refine th_norm ?_
       refine AWp_seq ?_
       obtain ⟨Hx, hK, hKx, hM, hR⟩ := hS.split [4, 5] rfl
       have hB := fun Hc (hc : Keep Hx Hc) => hR [] Hc (.base hc)
       refine AWp_D hKx rfl (by decide +kernel) ?_
       refine wd (.func (.func 133) #[] #[pt b6 0]) rfl rfl (fun _ hc => dv_move rfl) ?_
       refine wd (sv x91.a x91.xs.length x91.c) rfl rfl (fun _ hc => dv_move rfl) ?_
       obtain ⟨x104, hx104⟩ := get_el (xs := x91.xs) (i := 2) (by omega)
       have ht105 := hinP_get hhk hx104
       refine wd (sp x91.a (2 * 1)) rfl rfl (fun _ hc => dv_indexAddr (a := sv x91.a x91.xs.length x91.c) (b := iv 2) rfl rfl (ix_sls (n := x91.xs.length) (i := 2) (rowsE_sls ((hB _ hc).at (i := 2) rfl) hx91) hx104 rfl rfl rfl (get_lt hx104))) ?_
       refine wd (iv x104) rfl rfl (fun _ hc => dv_load rfl (ld_sls (sz := 1) (off := 0) (rowsE_sls ((hB _ hc).at (i := 2) rfl) hx91) hx104 (fun _ => rfl) rfl rfl rfl)) ?_
       refine wd (.agg #[fl ((bentD b.m.ps x91.xs).x), fl ((bentD b.m.ps x91.xs).y), fl ((bentD b.m.ps x91.xs).z)]) rfl rfl (fun _ hc => dv_load rfl (ld_boxA (n := 3) ((hB _ hc).box 3 rfl) rfl rfl (Nat.le_of_ble_eq_true rfl) rfl)) ?_
       refine wd (pt b1 4) rfl rfl (fun _ hc => dv_fieldAddr rfl rfl) ?_
       refine wd (fl b.bend) rfl rfl (fun _ hc => dv_load rfl (ld_box ((hB _ hc).box 0 rfl) rfl rfl rfl)) ?_
       refine wd (fl (fneg .f32 b.bend)) rfl rfl (fun _ hc => dv_un rfl rfl) ?_
       obtain ⟨Hy, hKy, _, hN, hQ⟩ := hM.split [0, 1] rfl
       have hY := hQ [] _ (SepL.refl Hy)
       refine W_callF (k := 133) (cs := [pt b6 0]) (vs := [iv x104, .agg #[fl ((bentD b.m.ps x91.xs).x), fl ((bentD b.m.ps x91.xs).y), fl ((bentD b.m.ps x91.xs).z)], fl (fneg .f32 b.bend)]) rfl rfl rfl rfl rfl rfl rfl rfl (push_ok x104 (bentD b.m.ps x91.xs) (fneg .f32 b.bend) b6 a2 b.m.pn b.m.pn y101 _ _ h103 (by omega) hN (by first | assumption | omega | (simp only [*]; assumption) | (simp_all; done))) ?_
       rintro _ H ⟨y106, h107, h108, rfl, hP⟩
       have hlh107 := congrArg List.length h107
       have hM : SepL _ [box b6 [sv a2 b.m.pn b.m.pn] 37, sl encV 41 3 a2 b.m.pn y106] H := hQ _ _ hP
       refine ⟨hM.keep, ?_⟩
       have hS := hR _ _ hM
       refine W_nil ?_
       refine th_norm ?_
       obtain ⟨Hx, hK, hKx, hM, hR⟩ := hS.split [4, 5] rfl
       have hB := fun Hc (hc : Keep Hx Hc) => hR [] Hc (.base hc)
       refine AWp_D hKx rfl (by decide +kernel) ?_
       refine wd (.func (.func 133) #[] #[pt b6 0]) rfl rfl (fun _ hc => dv_move rfl) ?_
       refine wd (sv x91.a x91.xs.length x91.c) rfl rfl (fun _ hc => dv_move rfl) ?_
       obtain ⟨x109, hx109⟩ := get_el (xs := x91.xs) (i := 3) (by omega)
       have ht110 := hinP_get hhk hx109
       refine wd (sp x91.a (3 * 1)) rfl rfl (fun _ hc => dv_indexAddr (a := sv x91.a x91.xs.length x91.c) (b := iv 3) rfl rfl (ix_sls (n := x91.xs.length) (i := 3) (rowsE_sls ((hB _ hc).at (i := 2) rfl) hx91) hx109 rfl rfl rfl (get_lt hx109))) ?_
       refine wd (iv x109) rfl rfl (fun _ hc => dv_load rfl (ld_sls (sz := 1) (off := 0) (rowsE_sls ((hB _ hc).at (i := 2) rfl) hx91) hx109 (fun _ => rfl) rfl rfl rfl)) ?_
       refine wd (.agg #[fl ((bentD b.m.ps x91.xs).x), fl ((bentD b.m.ps x91.xs).y), fl ((bentD b.m.ps x91.xs).z)]) rfl rfl (fun _ hc => dv_load rfl (ld_boxA (n := 3) ((hB _ hc).box 3 rfl) rfl rfl (Nat.le_of_ble_eq_true rfl) rfl)) ?_
       refine wd (pt b1 4) rfl rfl (fun _ hc => dv_fieldAddr rfl rfl) ?_
       refine wd (fl b.bend) rfl rfl (fun _ hc => dv_load rfl (ld_box ((hB _ hc).box 0 rfl) rfl rfl rfl)) ?_
       refine wd (fl (fneg .f32 b.bend)) rfl rfl (fun _ hc => dv_un rfl rfl) ?_
       obtain ⟨Hy, hKy, _, hN, hQ⟩ := hM.split [0, 1] rfl
       have hY := hQ [] _ (SepL.refl Hy)
       refine W_callF (k := 133) (cs := [pt b6 0]) (vs := [iv x109, .agg #[fl ((bentD b.m.ps x91.xs).x), fl ((bentD b.m.ps x91.xs).y), fl ((bentD b.m.ps x91.xs).z)], fl (fneg .f32 b.bend)]) rfl rfl rfl rfl rfl rfl rfl rfl (push_ok x109 (bentD b.m.ps x91.xs) (fneg .f32 b.bend) b6 a2 b.m.pn b.m.pn y106 _ _ h108 (by omega) hN (by first | assumption | omega | (simp only [*]; assumption) | (simp_all; done))) ?_
       rintro _ H ⟨y111, h112, h113, rfl, hP⟩
       have hlh112 := congrArg List.length h112
       have hM : SepL _ [box b6 [sv a2 b.m.pn b.m.pn] 37, sl encV 41 3 a2 b.m.pn y111] H := hQ _ _ hP
       refine ⟨hM.keep, ?_⟩
       have hS := hR _ _ hM
       refine W_nil ?_
       refine bl_norm ?_
       refine th_norm ?_
       refine AWp_E rfl ?_
       refine ed (iv ((l + 1 : Nat) : Int)) rfl rfl (dv_bin rfl rfl (bi_add (by omega))) ?_
       refine ed (iv ((l + 1 : Nat) : Int)) rfl rfl (dv_move rfl) ?_
       refine E_nil ?_
       refine loop_next (I := I84) (x81.length - (l + 1)) (by rw [hm87]; omega) ?_
       rw [hI84]
       refine ⟨l + 1, y111, rfl, (all_c rfl (all_c rfl (all_c rfl (all_c rfl (all_c rfl (all_c rfl (all_c rfl (all_c rfl (all_c rfl (all_c rfl (all_c rfl (all_c rfl (all_c rfl (all_c rfl (all_c rfl (all_c rfl (all_c rfl (all_c rfl (all_c rfl (all_c rfl (all_c rfl (all_c rfl (all_c rfl (all_c rfl (all_c rfl (all_c rfl (all_c rfl (all_c rfl (all_c rfl (all_c rfl (all_c rfl all_n))))))))))))))))))))))))))))))), (hS.pick [0, 5, 4, 1, 2] rfl), h113, ?_, ?_⟩
       · omega
       · refine iter_to ho ?_
         rw [h112, h107, h102, h97]
         simp only [force2, push, pushH, LB.d, LM.d, rxs, Msh.hinges, Int.toNat_natCast, gD 0 hx94, gD 0 hx99, gD 0 hx104, gD 0 hx109, gD [] (rows_get h82 hx91)]
      ·
       refine ed no rfl rfl (dv_bin rfl rfl (bi_lss_f hc90)) ?_
       refine E_nil ?_
       refine th_norm ?_
       refine AWp_seq ?_
       refine AWp_cond (t := false) rfl nofun (fun _ => ?_)
       refine AWp_exit (th_exit (th_exit (bl_exit (?_))))
       refine th_norm ?_
       refine AWp_seq ?_
       refine AWp_seq ?_
       refine AWp_E rfl ?_
       refine ed (pt b1 5) rfl rfl (dv_fieldAddr rfl rfl) ?_
       refine ed (sv b.wa b.wn b.wc) rfl rfl (dv_load rfl (ld_box (hS.box 0 rfl) rfl rfl rfl)) ?_
       refine ed (iv ((b.wn : Nat) : Int)) rfl rfl (dv_len rfl rfl rfl rfl rfl) ?_
       refine ed (iv 0) rfl rfl (dv_move rfl) ?_
       refine E_nil ?_
       refine th_norm ?_
       refine AWp_block ?_
       obtain ⟨I114, hI114⟩ : ∃ I : Nat → Env → AH → Prop, ∀ m_ e_ Hl, I m_ e_ Hl = (∃ (q : Nat) (o : List (V3)), m_ = b.wn - q ∧ AllE [(0, bva b), (1, pt b1 0), (2, sv none 0 0), (3, pt b6 0), (4, .func (.func 133) #[] #[pt b6 0]), (9, sv b.m.pa b.m.pn b.m.pc), (23, pt b1 0), (24, pt b1 0), (25, sv b.m.pa b.m.pn b.m.pc), (26, iv ((b.m.pn : Nat) : Int)), (27, sv a2 b.m.pn b.m.pn), (28, .func (.func 133) #[] #[pt b6 0]), (29, pt b1 2), (30, sv b.sa b.sn b.sc), (31, iv ((b.sn : Nat) : Int)), (32, iv ((i : Nat) : Int)), (33, no), (56, pt b1 0), (57, pt b1 0), (58, sv b.m.pa b.m.pn b.m.pc), (59, pt b1 0), (60, pt b1 1), (61, sv b.m.ta b.m.tn b.m.tc), (62, iv ((b.m.tn : Nat) : Int)), (63, iv ((j : Nat) : Int)), (64, no), (116, pt b1 0), (117, mva b.m), (118, sv x78 x81.length x80), (119, iv ((x81.length : Nat) : Int)), (120, iv ((l : Nat) : Int)), (121, no), (163, pt b1 5), (164, sv b.wa b.wn b.wc), (165, iv ((b.wn : Nat) : Int)), (166, iv ((q : Nat) : Int))] e_ ∧ SepL H0 [box b1 [sv b.m.pa b.m.pn b.m.pc, sv b.m.ta b.m.tn b.m.tc, sv b.sa b.sn b.sc, fl b.film, fl b.bend, sv b.wa b.wn b.wc, fl b.fall.x, fl b.fall.y, fl b.fall.z] 43, sl encV 41 3 a2 b.m.pn o, box b6 [sv a2 b.m.pn b.m.pn] 37, sl encR 53 1 x78 x80 x81, rowsE 2 x81] Hl ∧ o.length = b.m.pn ∧ (q ≤ b.wn) ∧ (o = (iter (force3 b.d) (iter (force2 b.d) (iter (force1 b.d) (iter (force0 b.d) (List.replicate b.m.ps.length v0) b.ss.length) (rxs b.m.ts).length) (hingesD b.m.ps.length (rxs b.m.ts)).length) q))) := ⟨_, fun _ _ _ => rfl⟩
       refine AWp_loop I114 (b.wn - (0)) ?_ ?_
       ·
        rw [hI114]
        refine ⟨0, o, rfl, (all_c rfl (all_c rfl (all_c rfl (all_c rfl (all_c rfl (all_c rfl (all_c rfl (all_c rfl (all_c rfl (all_c rfl (all_c rfl (all_c rfl (all_c rfl (all_c rfl (all_c rfl (all_c rfl (all_c rfl (all_c rfl (all_c rfl (all_c rfl (all_c rfl (all_c rfl (all_c rfl (all_c rfl (all_c rfl (all_c rfl (all_c rfl (all_c rfl (all_c rfl (all_c rfl (all_c rfl (all_c rfl (all_c rfl (all_c rfl (all_c rfl (all_c rfl all_n)))))))))))))))))))))))))))))))))))), hS, ho_n, ?_, ?_⟩
        · omega
        · have hii : l = (hingesD b.m.ps.length (rxs b.m.ts)).length := by omega
          rw [ho, hii]; rfl
       ·
        intro m115 _ H hl116
        rw [hI114] at hl116
        obtain ⟨q, o, hm117, he118, hS, ho_n, hi, ho⟩ := hl116
        obtain ⟨e119, rfl⟩ := he118.ex
        refine AWp_seq ?_
        refine AWp_E rfl ?_
        rcases Decidable.em (((q : Nat) : Int) < ((b.wn : Nat) : Int)) with hc120 | hc120
        ·
         refine ed yes rfl rfl (dv_bin rfl rfl (bi_lss_t hc120)) ?_
         refine E_nil ?_
         refine th_norm ?_
         refine AWp_seq ?_
         refine AWp_cond (t := true) rfl (fun _ => ?_) nofun
         refine AWp_skip ?_
         refine th_norm ?_
         refine AWp_seq ?_
         refine AWp_block ?_
         refine AWp_seq ?_
         refine AWp_E rfl ?_
         refine ed (iv ((q : Nat) : Int)) rfl rfl (dv_move rfl) ?_
         obtain ⟨x121, hx121⟩ := get_el (xs := b.ws) (i := q) (by omega)
         refine ed (sp b.wa (q * 1)) rfl rfl (dv_indexAddr (a := sv b.wa b.wn b.wc) (b := iv ((q : Nat) : Int)) rfl rfl (ix_sls (n := b.wn) (i := q) (hb_ws.keep hS.keep) hx121 rfl rfl rfl (by omega))) ?_
         refine ed (fl x121) rfl rfl (dv_load rfl (ld_sls (sz := 1) (off := 0) (hb_ws.keep hS.keep) hx121 (fun _ => rfl) rfl rfl rfl)) ?_
         refine ed (iv ((q : Nat) : Int)) rfl rfl (dv_assign rfl) ?_
         refine ed (fl x121) rfl rfl (dv_assign rfl) ?_
         refine E_nil ?_
         refine th_norm ?_
         refine AWp_E rfl ?_
         refine ed (.func (.func 133) #[] #[pt b6 0]) rfl rfl (dv_move rfl) ?_
         refine ed (iv ((q : Nat) : Int)) rfl rfl (dv_move rfl) ?_
         refine ed (pt b1 6) rfl rfl (dv_fieldAddr rfl rfl) ?_
         refine ed (va b.fall) rfl rfl (dv_load rfl (ld_boxA (n := 3) (hS.box 0 rfl) rfl rfl (Nat.le_of_ble_eq_true rfl) rfl)) ?_
         refine ed (fl x121) rfl rfl (dv_move rfl) ?_
         obtain ⟨Hy, hKy, _, hN, hQ⟩ := hS.split [2, 1] rfl
         have hY := hQ [] _ (SepL.refl Hy)
         refine E_callF (k := 133) (cs := [pt b6 0]) (vs := [iv ((q : Nat) : Int), va b.fall, fl x121]) rfl rfl rfl rfl rfl rfl rfl rfl (push_ok ((q : Nat) : Int) b.fall x121 b6 a2 b.m.pn b.m.pn o _ _ ho_n (by omega) hN (by first | assumption | omega | (simp only [*]; assumption) | (simp_all; done))) ?_
         rintro _ H ⟨y122, h123, h124, rfl, hP⟩
         have hlh123 := congrArg List.length h123
         have hS : SepL _ [box b1 [sv b.m.pa b.m.pn b.m.pc, sv b.m.ta b.m.tn b.m.tc, sv b.sa b.sn b.sc, fl b.film, fl b.bend, sv b.wa b.wn b.wc, fl b.fall.x, fl b.fall.y, fl b.fall.z] 43, sl encR 53 1 x78 x80 x81, rowsE 2 x81, box b6 [sv a2 b.m.pn b.m.pn] 37, sl encV 41 3 a2 b.m.pn y122] H := hQ _ _ hP
         refine E_nil ?_
         refine bl_norm ?_
         refine th_norm ?_
         refine AWp_E rfl ?_
         refine ed (iv ((q + 1 : Nat) : Int)) rfl rfl (dv_bin rfl rfl (bi_add (by omega))) ?_
         refine ed (iv ((q + 1 : Nat) : Int)) rfl rfl (dv_move rfl) ?_
         refine E_nil ?_
         refine loop_next (I := I114) (b.wn - (q + 1)) (by rw [hm117]; omega) ?_
         rw [hI114]
         refine ⟨q + 1, y122, rfl, (all_c rfl (all_c rfl (all_c rfl (all_c rfl (all_c rfl (all_c rfl (all_c rfl (all_c rfl (all_c rfl (all_c rfl (all_c rfl (all_c rfl (all_c rfl (all_c rfl (all_c rfl (all_c rfl (all_c rfl (all_c rfl (all_c rfl (all_c rfl (all_c rfl (all_c rfl (all_c rfl (all_c rfl (all_c rfl (all_c rfl (all_c rfl (all_c rfl (all_c rfl (all_c rfl (all_c rfl (all_c rfl (all_c rfl (all_c rfl (all_c rfl (all_c rfl all_n)))))))))))))))))))))))))))))))))))), (hS.pick [0, 4, 3, 1, 2] rfl), h124, ?_, ?_⟩
         · omega
         · refine iter_to ho ?_
           rw [h123]
           simp only [force3, push, pushH, LB.d, LM.d, rxs, Msh.hinges, Int.toNat_natCast, gD 0 hx121]
        ·
         refine ed no rfl rfl (dv_bin rfl rfl (bi_lss_f hc120)) ?_
         refine E_nil ?_
         refine th_norm ?_
         refine AWp_seq ?_
         refine AWp_cond (t := false) rfl nofun (fun _ => ?_)
         refine AWp_exit (th_exit (th_exit (bl_exit (?_))))
         refine th_norm ?_
         refine AWp_seq ?_
         refine AWp_E rfl ?_
         refine ed (sv a2 b.m.pn b.m.pn) rfl rfl (dv_load rfl (ld_box (hS.box 2 rfl) rfl rfl rfl)) ?_
         refine ed (sv a2 b.m.pn b.m.pn) rfl rfl (dv_assign rfl) ?_
         refine E_nil ?_
         refine th_norm ?_
         refine AWp_ret (?_)
         refine ret_of ?_
         refine readsRes_of (rs := [.tmp 2]) (vs := [sv a2 b.m.pn b.m.pn]) rfl (re_cons (re_tmp rfl) (re_nil)) rfl ?_
         refine ⟨a2, b.m.pn, b.m.pn, o, ?_, ?_, ho_n, rfl, hS.pick [1] rfl⟩
         · omega
         · have hii : q = b.m.ps.length := by omega
           rw [ho, hii]; rfl
end Go.Ab

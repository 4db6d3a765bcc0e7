/- Walks through functions of the program: what each computes, told over that view of memory; each with the conditions that it tells. -/
import Derived.Test.YtpiidmgenkjiiaaGreatProg
import Derived.Test.YtpiidmgenkjiiaaGreatWc
import Derived.Test.YtpiidmgenkjiiaaGreatVb
set_option maxRecDepth 100000
set_option maxHeartbeats 4000000
namespace Go.Ab
open Go.Proofs
theorem l03Gain_ok (x : Nat) (long : Nat) (H : AH)  : ACalls Tryz.prog 110 [fl x, fl long] H
  (fun r H' => ∃ (v_ : Nat), gain x long = v_ ∧ r = fl v_ ∧ SepL H [] H') := by
 refine ACalls_of Tryz.func110 rfl (Nat.le_of_ble_eq_true rfl) ?_
 obtain ⟨H0, hH0⟩ : ∃ H0, H0 = H := ⟨_, rfl⟩
 have hS : SepL H0 [] H := hH0 ▸ SepL.refl H
 subst hH0
 refine AWp_seq ?_
 refine AWp_E rfl ?_
 refine ed (fl 0) rfl rfl (dv_assign rfl) ?_
 refine E_nil ?_
 refine th_norm ?_
 refine AWp_seq ?_
 refine AWp_seq ?_
 refine AWp_E rfl ?_
 refine ed (fl long) rfl rfl (dv_move rfl) ?_
 rcases Bool.eq_false_or_eq_true (fgt .f32 long 0) with hc1 | hc1
 ·
  refine ed yes rfl rfl (dv_bin rfl rfl (isB bf_gtr hc1)) ?_
  refine E_nil ?_
  refine th_norm ?_
  refine AWp_cond (t := true) rfl (fun _ => ?_) nofun
  refine AWp_seq ?_
  refine AWp_E rfl ?_
  refine ed (fl x) rfl rfl (dv_move rfl) ?_
  refine ed (fl long) rfl rfl (dv_move rfl) ?_
  refine ed (fl (fop .div .f32 x long)) rfl rfl (dv_bin rfl rfl rfl) ?_
  refine ed (fl (fop .div .f32 x long)) rfl rfl (dv_assign rfl) ?_
  refine E_nil ?_
  refine th_norm ?_
  refine AWp_ret (th_ret (?_))
  refine ret_of ?_
  refine readsRes_of (rs := [.tmp 4]) (vs := [fl (fop .div .f32 x long)]) rfl (re_cons (re_tmp rfl) (re_nil)) rfl ?_
  refine ⟨(fop .div .f32 x long), ?_, rfl, .base hS.keep⟩
  · simp [gain, hc1]
 ·
  refine ed no rfl rfl (dv_bin rfl rfl (isB bf_gtr hc1)) ?_
  refine E_nil ?_
  refine th_norm ?_
  refine AWp_cond (t := false) rfl nofun (fun _ => ?_)
  refine AWp_skip ?_
  refine th_norm ?_
  refine AWp_seq ?_
  refine AWp_E rfl ?_
  refine ed (fl 0) rfl rfl (dv_assign rfl) ?_
  refine E_nil ?_
  refine th_norm ?_
  refine AWp_ret (?_)
  refine ret_of ?_
  refine readsRes_of (rs := [.tmp 4]) (vs := [fl 0]) rfl (re_cons (re_tmp rfl) (re_nil)) rfl ?_
  refine ⟨0, ?_, rfl, .base hS.keep⟩
  · simp [gain, hc1]
theorem l03Way_ok (b_p b_o : Nat) (b : LB) (s_p s_o : Nat) (s : Spr) (H : AH) (hbpv : PV H b_p b_o b.v) (hb : b.ok H) (hspv : PV H s_p s_o (encS s)) (hs0 : sprP b.m.ps.length s) : ACalls Tryz.prog 131 [pt b_p b_o, pt s_p s_o] H
  (fun r H' => ∃ (v0_ : V3), ∃ (v1_ : Nat), alongD b.m.ps s = v0_ ∧ pullD (alongD b.m.ps s) s = v1_ ∧ r = .tuple #[va v0_, fl v1_] ∧ SepL H [] H') := by
 refine ACalls_of Tryz.func131 rfl (Nat.le_of_ble_eq_true rfl) ?_
 obtain ⟨H0, hH0⟩ : ∃ H0, H0 = H := ⟨_, rfl⟩
 have hS : SepL H0 [] H := hH0 ▸ SepL.refl H
 subst hH0
 obtain ⟨⟨hb_1_ps, hb_1_pn, hb_1_pb⟩, hb_1_ts, hb_1_tn, hb_1_tb⟩ := id hb.1
 obtain ⟨⟨hb_ss, hb_sn, hb_sb⟩, hb_ws, hb_wn, hb_wb⟩ := hb.2
 have hsp := hs0
 unfold sprP inP at hsp
 refine AWp_seq ?_
 refine AWp_E rfl ?_
 refine S_box (l := [fl 0, fl 0, fl 0]) hS rfl rfl rfl rfl rfl fun b1 H hS => ?_
 refine ed (fl 0) rfl rfl (dv_assign rfl) ?_
 refine E_nil ?_
 refine th_norm ?_
 refine AWp_seq ?_
 have hR := hS.pushes
 have hKb := hS.keep
 have hB := fun Hc (hc : Keep _ Hc) => hR [] Hc (.base hc)
 refine AWp_D0 rfl (by decide +kernel) fun hM => ?_
 refine wd (pt b_p b_o) rfl rfl (fun _ hc => dv_move rfl) ?_
 refine wd (pt b_p b_o) rfl rfl (fun _ hc => dv_nilCheck rfl) ?_
 refine wd (pt b_p b_o) rfl rfl (fun _ hc => dv_fieldAddr rfl rfl) ?_
 refine wd (pt b_p b_o) rfl rfl (fun _ hc => dv_fieldAddr rfl rfl) ?_
 refine wd (sv b.m.pa b.m.pn b.m.pc) rfl rfl (fun _ hc => dv_load rfl (ld_pv (off := 0) (hbpv.keep (hKb.trans hc)) rfl rfl rfl)) ?_
 refine wd (pt s_p s_o) rfl rfl (fun _ hc => dv_move rfl) ?_
 refine wd (pt s_p s_o) rfl rfl (fun _ hc => dv_nilCheck rfl) ?_
 refine wd (pt s_p (s_o + 1)) rfl rfl (fun _ hc => dv_fieldAddr rfl rfl) ?_
 refine wd (iv s.B) rfl rfl (fun _ hc => dv_load rfl (ld_pv (off := 1) (hspv.keep (hKb.trans hc)) rfl rfl rfl)) ?_
 obtain ⟨x2, hx2⟩ := get_el (xs := b.m.ps) (i := (s.B).toNat) (by omega)
 refine wd (sp b.m.pa (((s.B).toNat) * 3)) rfl rfl (fun _ hc => dv_indexAddr (a := sv b.m.pa b.m.pn b.m.pc) (b := iv s.B) rfl rfl (ix_sls (n := b.m.pn) (i := ((s.B).toNat)) (hb_1_ps.keep (hKb.trans hc)) hx2 rfl rfl (by omega) (by omega))) ?_
 refine wd (va x2) rfl rfl (fun _ hc => dv_load rfl (ld_slsA (sz := 3) (m := 3) (ys := [fl x2.x, fl x2.y, fl x2.z]) (off := 0) (hb_1_ps.keep (hKb.trans hc)) hx2 (fun _ => rfl) rfl rfl (Nat.le_of_ble_eq_true rfl) rfl)) ?_
 refine wd (pt b_p b_o) rfl rfl (fun _ hc => dv_move rfl) ?_
 refine wd (pt b_p b_o) rfl rfl (fun _ hc => dv_nilCheck rfl) ?_
 refine wd (pt b_p b_o) rfl rfl (fun _ hc => dv_fieldAddr rfl rfl) ?_
 refine wd (pt b_p b_o) rfl rfl (fun _ hc => dv_fieldAddr rfl rfl) ?_
 refine wd (sv b.m.pa b.m.pn b.m.pc) rfl rfl (fun _ hc => dv_load rfl (ld_pv (off := 0) (hbpv.keep (hKb.trans hc)) rfl rfl rfl)) ?_
 refine wd (pt s_p s_o) rfl rfl (fun _ hc => dv_move rfl) ?_
 refine wd (pt s_p s_o) rfl rfl (fun _ hc => dv_nilCheck rfl) ?_
 refine wd (pt s_p s_o) rfl rfl (fun _ hc => dv_fieldAddr rfl rfl) ?_
 refine wd (iv s.A) rfl rfl (fun _ hc => dv_load rfl (ld_pv (off := 0) (hspv.keep (hKb.trans hc)) rfl rfl rfl)) ?_
 obtain ⟨x3, hx3⟩ := get_el (xs := b.m.ps) (i := (s.A).toNat) (by omega)
 refine wd (sp b.m.pa (((s.A).toNat) * 3)) rfl rfl (fun _ hc => dv_indexAddr (a := sv b.m.pa b.m.pn b.m.pc) (b := iv s.A) rfl rfl (ix_sls (n := b.m.pn) (i := ((s.A).toNat)) (hb_1_ps.keep (hKb.trans hc)) hx3 rfl rfl (by omega) (by omega))) ?_
 refine wd (va x3) rfl rfl (fun _ hc => dv_load rfl (ld_slsA (sz := 3) (m := 3) (ys := [fl x3.x, fl x3.y, fl x3.z]) (off := 0) (hb_1_ps.keep (hKb.trans hc)) hx3 (fun _ => rfl) rfl rfl (Nat.le_of_ble_eq_true rfl) rfl)) ?_
 refine W_call (vs := [va x2, va x3]) rfl rfl rfl rfl rfl rfl rfl (l01Less_ok x2 x3 _) ?_
 rintro _ H ⟨v4, rfl, rfl, hQ⟩
 have hM := hM.up hQ.keep
 refine ⟨hM.keep, ?_⟩
 refine D_box (l := [fl 0, fl 0, fl 0]) hM rfl rfl rfl rfl rfl fun b5 H hM => ?_
 have hS := hR _ _ hM
 refine D_store (i := 1) (yv := .agg #[fl ((vsub x2 x3).x), fl ((vsub x2 x3).y), fl ((vsub x2 x3).z)]) (l' := [fl ((vsub x2 x3).x), fl ((vsub x2 x3).y), fl ((vsub x2 x3).z)]) hS rfl rfl rfl rfl rfl rfl rfl rfl rfl rfl rfl rfl rfl fun H hS => ?_
 refine th_norm ?_
 refine AWp_seq ?_
 refine AWp_E rfl ?_
 refine ed (.agg #[fl ((vsub x2 x3).x), fl ((vsub x2 x3).y), fl ((vsub x2 x3).z)]) rfl rfl (dv_load rfl (ld_boxA (n := 3) (hS.box 1 rfl) rfl rfl (Nat.le_of_ble_eq_true rfl) rfl)) ?_
 refine E_call (vs := [.agg #[fl ((vsub x2 x3).x), fl ((vsub x2 x3).y), fl ((vsub x2 x3).z)]]) rfl rfl rfl rfl rfl rfl rfl (l01Long_ok (vsub x2 x3) _) ?_
 rintro _ H ⟨v6, rfl, rfl, hQ⟩
 have hS := hS.up hQ.keep
 refine ed (fl (vlong (vsub x2 x3))) rfl rfl (dv_assign rfl) ?_
 refine E_nil ?_
 refine th_norm ?_
 refine AWp_seq ?_
 obtain ⟨Hx, hK, hKx, hM, hR⟩ := hS.split [0] rfl
 have hB := fun Hc (hc : Keep Hx Hc) => hR [] Hc (.base hc)
 refine AWp_D hKx rfl (by decide +kernel) ?_
 refine wd (.agg #[fl ((vsub x2 x3).x), fl ((vsub x2 x3).y), fl ((vsub x2 x3).z)]) rfl rfl (fun _ hc => dv_load rfl (ld_boxA (n := 3) ((hB _ hc).box 0 rfl) rfl rfl (Nat.le_of_ble_eq_true rfl) rfl)) ?_
 refine wd (pt s_p s_o) rfl rfl (fun _ hc => dv_move rfl) ?_
 refine wd (pt s_p s_o) rfl rfl (fun _ hc => dv_nilCheck rfl) ?_
 refine wd (pt s_p (s_o + 3)) rfl rfl (fun _ hc => dv_fieldAddr rfl rfl) ?_
 refine wd (fl s.Stiff) rfl rfl (fun _ hc => dv_load rfl (ld_pv (off := 3) (hspv.keep (hK.trans hc)) rfl rfl rfl)) ?_
 refine wd (fl (vlong (vsub x2 x3))) rfl rfl (fun _ hc => dv_move rfl) ?_
 refine wd (pt s_p s_o) rfl rfl (fun _ hc => dv_move rfl) ?_
 refine wd (pt s_p s_o) rfl rfl (fun _ hc => dv_nilCheck rfl) ?_
 refine wd (pt s_p (s_o + 2)) rfl rfl (fun _ hc => dv_fieldAddr rfl rfl) ?_
 refine wd (fl s.Long) rfl rfl (fun _ hc => dv_load rfl (ld_pv (off := 2) (hspv.keep (hK.trans hc)) rfl rfl rfl)) ?_
 refine wd (fl (fop .sub .f32 (vlong (vsub x2 x3)) s.Long)) rfl rfl (fun _ hc => dv_bin rfl rfl rfl) ?_
 refine wd (fl (fop .mul .f32 s.Stiff (fop .sub .f32 (vlong (vsub x2 x3)) s.Long))) rfl rfl (fun _ hc => dv_bin rfl rfl rfl) ?_
 refine wd (fl (vlong (vsub x2 x3))) rfl rfl (fun _ hc => dv_move rfl) ?_
 refine W_call (vs := [fl (fop .mul .f32 s.Stiff (fop .sub .f32 (vlong (vsub x2 x3)) s.Long)), fl (vlong (vsub x2 x3))]) rfl rfl rfl rfl rfl rfl rfl (l03Gain_ok (fop .mul .f32 s.Stiff (fop .sub .f32 (vlong (vsub x2 x3)) s.Long)) (vlong (vsub x2 x3)) _) ?_
 rintro _ H ⟨v7, h8, rfl, hQ⟩
 have hM := hM.up hQ.keep
 refine ⟨hM.keep, ?_⟩
 refine D_storeM (i := 0) (yv := .agg #[fl ((vsub x2 x3).x), fl ((vsub x2 x3).y), fl ((vsub x2 x3).z)]) (l' := [fl ((vsub x2 x3).x), fl ((vsub x2 x3).y), fl ((vsub x2 x3).z)]) hM rfl rfl rfl rfl rfl rfl rfl rfl rfl rfl rfl rfl fun H hM => ?_
 refine wd (fl v7) rfl rfl (fun _ hc => dv_assign rfl) ?_
 have hS := hR _ _ hM
 refine W_nil ?_
 refine th_norm ?_
 refine AWp_ret (?_)
 refine ret_of ?_
 refine readsRes_of (rs := [.cell 4 41, .tmp 5]) (vs := [.agg #[fl ((vsub x2 x3).x), fl ((vsub x2 x3).y), fl ((vsub x2 x3).z)], fl v7]) rfl (re_cons (re_cell (p := pt b1 0) rfl (ld_boxA (n := 3) (hS.box 1 rfl) rfl rfl (Nat.le_of_ble_eq_true rfl) rfl)) (re_cons (re_tmp rfl) (re_nil))) rfl ?_
 refine ⟨(vsub x2 x3), v7, ?_, ?_, rfl, .base hS.keep⟩
 · simp only [pullD, alongD, at3_of hx2, at3_of hx3] <;> first | assumption | omega
 · simp only [pullD, alongD, at3_of hx2, at3_of hx3] <;> first | assumption | omega
theorem l03Normal_ok (m_p m_o : Nat) (m : LM) (t_a : Option Addr) (t_n t_c : Nat) (t : List (Int)) (H : AH) (hmpv : PV H m_p m_o m.v) (hm : m.ok H) (ht : VS H encI t_a t_n t) (ht0 : triP t m.ps.length) : ACalls Tryz.prog 118 [pt m_p m_o, sv t_a t_n t_c] H
  (fun r H' => ∃ (v_ : V3), normalD m.ps t = v_ ∧ r = va v_ ∧ SepL H [] H') := by
 refine ACalls_of Tryz.func118 rfl (Nat.le_of_ble_eq_true rfl) ?_
 obtain ⟨H0, hH0⟩ : ∃ H0, H0 = H := ⟨_, rfl⟩
 have hS : SepL H0 [] H := hH0 ▸ SepL.refl H
 subst hH0
 obtain ⟨⟨hm_ps, hm_pn, hm_pb⟩, hm_ts, hm_tn, hm_tb⟩ := id hm
 obtain ⟨ht_s, ht_n, ht_b⟩ := id ht
 have hl3 := ht0.1
 refine AWp_seq ?_
 refine AWp_E rfl ?_
 refine S_box (l := [fl 0, fl 0, fl 0]) hS rfl rfl rfl rfl rfl fun b1 H hS => ?_
 refine E_nil ?_
 refine th_norm ?_
 refine AWp_seq ?_
 have hR := hS.pushes
 have hKb := hS.keep
 have hB := fun Hc (hc : Keep _ Hc) => hR [] Hc (.base hc)
 refine AWp_D0 rfl (by decide +kernel) fun hM => ?_
 refine wd (pt m_p m_o) rfl rfl (fun _ hc => dv_move rfl) ?_
 refine wd (pt m_p m_o) rfl rfl (fun _ hc => dv_nilCheck rfl) ?_
 refine wd (pt m_p m_o) rfl rfl (fun _ hc => dv_fieldAddr rfl rfl) ?_
 refine wd (sv m.pa m.pn m.pc) rfl rfl (fun _ hc => dv_load rfl (ld_pv (off := 0) (hmpv.keep (hKb.trans hc)) rfl rfl rfl)) ?_
 refine wd (sv t_a t_n t_c) rfl rfl (fun _ hc => dv_move rfl) ?_
 obtain ⟨x2, hx2⟩ := get_el (xs := t) (i := 0) (by omega)
 have ht3 := triP_get ht0 hx2
 unfold inP at ht3
 refine wd (sp t_a (0 * 1)) rfl rfl (fun _ hc => dv_indexAddr (a := sv t_a t_n t_c) (b := iv 0) rfl rfl (ix_sls (n := t_n) (i := 0) (ht_s.keep (hKb.trans hc)) hx2 rfl rfl rfl (by omega))) ?_
 refine wd (iv x2) rfl rfl (fun _ hc => dv_load rfl (ld_sls (sz := 1) (off := 0) (ht_s.keep (hKb.trans hc)) hx2 (fun _ => rfl) rfl rfl rfl)) ?_
 obtain ⟨x4, hx4⟩ := get_el (xs := m.ps) (i := (x2).toNat) (by omega)
 refine wd (sp m.pa (((x2).toNat) * 3)) rfl rfl (fun _ hc => dv_indexAddr (a := sv m.pa m.pn m.pc) (b := iv x2) rfl rfl (ix_sls (n := m.pn) (i := ((x2).toNat)) (hm_ps.keep (hKb.trans hc)) hx4 rfl rfl (by omega) (by omega))) ?_
 refine wd (va x4) rfl rfl (fun _ hc => dv_load rfl (ld_slsA (sz := 3) (m := 3) (ys := [fl x4.x, fl x4.y, fl x4.z]) (off := 0) (hm_ps.keep (hKb.trans hc)) hx4 (fun _ => rfl) rfl rfl (Nat.le_of_ble_eq_true rfl) rfl)) ?_
 refine D_box (l := [fl 0, fl 0, fl 0]) hM rfl rfl rfl rfl rfl fun b5 H hM => ?_
 have hS := hR _ _ hM
 refine D_store (i := 1) (yv := va x4) (l' := [fl x4.x, fl x4.y, fl x4.z]) hS rfl rfl rfl rfl rfl rfl rfl rfl rfl rfl rfl rfl rfl fun H hS => ?_
 refine th_norm ?_
 refine AWp_seq ?_
 have hR := hS.pushes
 have hKb := hS.keep
 have hB := fun Hc (hc : Keep _ Hc) => hR [] Hc (.base hc)
 refine AWp_D0 rfl (by decide +kernel) fun hM => ?_
 refine wd (pt m_p m_o) rfl rfl (fun _ hc => dv_move rfl) ?_
 refine wd (pt m_p m_o) rfl rfl (fun _ hc => dv_nilCheck rfl) ?_
 refine wd (pt m_p m_o) rfl rfl (fun _ hc => dv_fieldAddr rfl rfl) ?_
 refine wd (sv m.pa m.pn m.pc) rfl rfl (fun _ hc => dv_load rfl (ld_pv (off := 0) (hmpv.keep (hKb.trans hc)) rfl rfl rfl)) ?_
 refine wd (sv t_a t_n t_c) rfl rfl (fun _ hc => dv_move rfl) ?_
 obtain ⟨x6, hx6⟩ := get_el (xs := t) (i := 1) (by omega)
 have ht7 := triP_get ht0 hx6
 unfold inP at ht7
 refine wd (sp t_a (1 * 1)) rfl rfl (fun _ hc => dv_indexAddr (a := sv t_a t_n t_c) (b := iv 1) rfl rfl (ix_sls (n := t_n) (i := 1) (ht_s.keep (hKb.trans hc)) hx6 rfl rfl rfl (by omega))) ?_
 refine wd (iv x6) rfl rfl (fun _ hc => dv_load rfl (ld_sls (sz := 1) (off := 0) (ht_s.keep (hKb.trans hc)) hx6 (fun _ => rfl) rfl rfl rfl)) ?_
 obtain ⟨x8, hx8⟩ := get_el (xs := m.ps) (i := (x6).toNat) (by omega)
 refine wd (sp m.pa (((x6).toNat) * 3)) rfl rfl (fun _ hc => dv_indexAddr (a := sv m.pa m.pn m.pc) (b := iv x6) rfl rfl (ix_sls (n := m.pn) (i := ((x6).toNat)) (hm_ps.keep (hKb.trans hc)) hx8 rfl rfl (by omega) (by omega))) ?_
 refine wd (va x8) rfl rfl (fun _ hc => dv_load rfl (ld_slsA (sz := 3) (m := 3) (ys := [fl x8.x, fl x8.y, fl x8.z]) (off := 0) (hm_ps.keep (hKb.trans hc)) hx8 (fun _ => rfl) rfl rfl (Nat.le_of_ble_eq_true rfl) rfl)) ?_
 refine wd (va x4) rfl rfl (fun _ hc => dv_load rfl (ld_boxA (n := 3) ((hB _ hc).box 1 rfl) rfl rfl (Nat.le_of_ble_eq_true rfl) rfl)) ?_
 refine W_call (vs := [va x8, va x4]) rfl rfl rfl rfl rfl rfl rfl (l01Less_ok x8 x4 _) ?_
 rintro _ H ⟨v9, rfl, rfl, hQ⟩
 have hM := hM.up hQ.keep
 refine ⟨hM.keep, ?_⟩
 refine wd (pt m_p m_o) rfl rfl (fun _ hc => dv_move rfl) ?_
 refine wd (pt m_p m_o) rfl rfl (fun _ hc => dv_nilCheck rfl) ?_
 refine wd (pt m_p m_o) rfl rfl (fun _ hc => dv_fieldAddr rfl rfl) ?_
 refine wd (sv m.pa m.pn m.pc) rfl rfl (fun _ hc => dv_load rfl (ld_pv (off := 0) (hmpv.keep (hKb.trans hc)) rfl rfl rfl)) ?_
 refine wd (sv t_a t_n t_c) rfl rfl (fun _ hc => dv_move rfl) ?_
 obtain ⟨x10, hx10⟩ := get_el (xs := t) (i := 2) (by omega)
 have ht11 := triP_get ht0 hx10
 unfold inP at ht11
 refine wd (sp t_a (2 * 1)) rfl rfl (fun _ hc => dv_indexAddr (a := sv t_a t_n t_c) (b := iv 2) rfl rfl (ix_sls (n := t_n) (i := 2) (ht_s.keep (hKb.trans hc)) hx10 rfl rfl rfl (by omega))) ?_
 refine wd (iv x10) rfl rfl (fun _ hc => dv_load rfl (ld_sls (sz := 1) (off := 0) (ht_s.keep (hKb.trans hc)) hx10 (fun _ => rfl) rfl rfl rfl)) ?_
 obtain ⟨x12, hx12⟩ := get_el (xs := m.ps) (i := (x10).toNat) (by omega)
 refine wd (sp m.pa (((x10).toNat) * 3)) rfl rfl (fun _ hc => dv_indexAddr (a := sv m.pa m.pn m.pc) (b := iv x10) rfl rfl (ix_sls (n := m.pn) (i := ((x10).toNat)) (hm_ps.keep (hKb.trans hc)) hx12 rfl rfl (by omega) (by omega))) ?_
 refine wd (va x12) rfl rfl (fun _ hc => dv_load rfl (ld_slsA (sz := 3) (m := 3) (ys := [fl x12.x, fl x12.y, fl x12.z]) (off := 0) (hm_ps.keep (hKb.trans hc)) hx12 (fun _ => rfl) rfl rfl (Nat.le_of_ble_eq_true rfl) rfl)) ?_
 refine wd (va x4) rfl rfl (fun _ hc => dv_load rfl (ld_boxA (n := 3) ((hB _ hc).box 1 rfl) rfl rfl (Nat.le_of_ble_eq_true rfl) rfl)) ?_
 refine W_call (vs := [va x12, va x4]) rfl rfl rfl rfl rfl rfl rfl (l01Less_ok x12 x4 _) ?_
 rintro _ H ⟨v13, rfl, rfl, hQ⟩
 have hM := hM.up hQ.keep
 refine ⟨hM.keep, ?_⟩
 refine W_call (vs := [.agg #[fl ((vsub x8 x4).x), fl ((vsub x8 x4).y), fl ((vsub x8 x4).z)], .agg #[fl ((vsub x12 x4).x), fl ((vsub x12 x4).y), fl ((vsub x12 x4).z)]]) rfl rfl rfl rfl rfl rfl rfl (l01Cross_ok (vsub x8 x4) (vsub x12 x4) _) ?_
 rintro _ H ⟨v14, rfl, rfl, hQ⟩
 have hM := hM.up hQ.keep
 refine ⟨hM.keep, ?_⟩
 have hS := hR _ _ hM
 refine D_store (i := 0) (yv := .agg #[fl ((vcross (vsub x8 x4) (vsub x12 x4)).x), fl ((vcross (vsub x8 x4) (vsub x12 x4)).y), fl ((vcross (vsub x8 x4) (vsub x12 x4)).z)]) (l' := [fl ((vcross (vsub x8 x4) (vsub x12 x4)).x), fl ((vcross (vsub x8 x4) (vsub x12 x4)).y), fl ((vcross (vsub x8 x4) (vsub x12 x4)).z)]) hS rfl rfl rfl rfl rfl rfl rfl rfl rfl rfl rfl rfl rfl fun H hS => ?_
 refine th_norm ?_
 refine AWp_ret (?_)
 refine ret_of ?_
 refine readsRes_of (rs := [.cell 4 41]) (vs := [.agg #[fl ((vcross (vsub x8 x4) (vsub x12 x4)).x), fl ((vcross (vsub x8 x4) (vsub x12 x4)).y), fl ((vcross (vsub x8 x4) (vsub x12 x4)).z)]]) rfl (re_cons (re_cell (p := pt b1 0) rfl (ld_boxA (n := 3) (hS.box 0 rfl) rfl rfl (Nat.le_of_ble_eq_true rfl) rfl)) (re_nil)) rfl ?_
 refine ⟨(vcross (vsub x8 x4) (vsub x12 x4)), ?_, rfl, .base hS.keep⟩
 · simp only [normalD, gD 0 hx2, at3_of hx4, gD 0 hx6, at3_of hx8, gD 0 hx10, at3_of hx12] <;> first | assumption | omega
theorem l03Bent_ok (m_p m_o : Nat) (m : LM) (h_a : Option Addr) (h_n h_c : Nat) (h : List (Int)) (H : AH) (hmpv : PV H m_p m_o m.v) (hm : m.ok H) (hh : VS H encI h_a h_n h) (hh0 : hinP m.ps.length h) : ACalls Tryz.prog 120 [pt m_p m_o, sv h_a h_n h_c] H
  (fun r H' => ∃ (v_ : V3), bentD m.ps h = v_ ∧ r = va v_ ∧ SepL H [] H') := by
 refine ACalls_of Tryz.func120 rfl (Nat.le_of_ble_eq_true rfl) ?_
 obtain ⟨H0, hH0⟩ : ∃ H0, H0 = H := ⟨_, rfl⟩
 have hS : SepL H0 [] H := hH0 ▸ SepL.refl H
 subst hH0
 obtain ⟨⟨hm_ps, hm_pn, hm_pb⟩, hm_ts, hm_tn, hm_tb⟩ := id hm
 obtain ⟨hh_s, hh_n, hh_b⟩ := id hh
 have hl4 := hh0.1
 refine AWp_seq ?_
 refine AWp_E rfl ?_
 refine S_box (l := [fl 0, fl 0, fl 0]) hS rfl rfl rfl rfl rfl fun b1 H hS => ?_
 refine E_nil ?_
 refine th_norm ?_
 refine AWp_seq ?_
 have hR := hS.pushes
 have hKb := hS.keep
 have hB := fun Hc (hc : Keep _ Hc) => hR [] Hc (.base hc)
 refine AWp_D0 rfl (by decide +kernel) fun hM => ?_
 refine wd (pt m_p m_o) rfl rfl (fun _ hc => dv_move rfl) ?_
 refine wd (pt m_p m_o) rfl rfl (fun _ hc => dv_nilCheck rfl) ?_
 refine wd (pt m_p m_o) rfl rfl (fun _ hc => dv_fieldAddr rfl rfl) ?_
 refine wd (sv m.pa m.pn m.pc) rfl rfl (fun _ hc => dv_load rfl (ld_pv (off := 0) (hmpv.keep (hKb.trans hc)) rfl rfl rfl)) ?_
 refine wd (sv h_a h_n h_c) rfl rfl (fun _ hc => dv_move rfl) ?_
 obtain ⟨x2, hx2⟩ := get_el (xs := h) (i := 2) (by omega)
 have ht3 := hinP_get hh0 hx2
 refine wd (sp h_a (2 * 1)) rfl rfl (fun _ hc => dv_indexAddr (a := sv h_a h_n h_c) (b := iv 2) rfl rfl (ix_sls (n := h_n) (i := 2) (hh_s.keep (hKb.trans hc)) hx2 rfl rfl rfl (by omega))) ?_
 refine wd (iv x2) rfl rfl (fun _ hc => dv_load rfl (ld_sls (sz := 1) (off := 0) (hh_s.keep (hKb.trans hc)) hx2 (fun _ => rfl) rfl rfl rfl)) ?_
 obtain ⟨x4, hx4⟩ := get_el (xs := m.ps) (i := (x2).toNat) (by omega)
 refine wd (sp m.pa (((x2).toNat) * 3)) rfl rfl (fun _ hc => dv_indexAddr (a := sv m.pa m.pn m.pc) (b := iv x2) rfl rfl (ix_sls (n := m.pn) (i := ((x2).toNat)) (hm_ps.keep (hKb.trans hc)) hx4 rfl rfl (by omega) (by omega))) ?_
 refine wd (va x4) rfl rfl (fun _ hc => dv_load rfl (ld_slsA (sz := 3) (m := 3) (ys := [fl x4.x, fl x4.y, fl x4.z]) (off := 0) (hm_ps.keep (hKb.trans hc)) hx4 (fun _ => rfl) rfl rfl (Nat.le_of_ble_eq_true rfl) rfl)) ?_
 refine wd (pt m_p m_o) rfl rfl (fun _ hc => dv_move rfl) ?_
 refine wd (pt m_p m_o) rfl rfl (fun _ hc => dv_nilCheck rfl) ?_
 refine wd (pt m_p m_o) rfl rfl (fun _ hc => dv_fieldAddr rfl rfl) ?_
 refine wd (sv m.pa m.pn m.pc) rfl rfl (fun _ hc => dv_load rfl (ld_pv (off := 0) (hmpv.keep (hKb.trans hc)) rfl rfl rfl)) ?_
 refine wd (sv h_a h_n h_c) rfl rfl (fun _ hc => dv_move rfl) ?_
 obtain ⟨x5, hx5⟩ := get_el (xs := h) (i := 3) (by omega)
 have ht6 := hinP_get hh0 hx5
 refine wd (sp h_a (3 * 1)) rfl rfl (fun _ hc => dv_indexAddr (a := sv h_a h_n h_c) (b := iv 3) rfl rfl (ix_sls (n := h_n) (i := 3) (hh_s.keep (hKb.trans hc)) hx5 rfl rfl rfl (by omega))) ?_
 refine wd (iv x5) rfl rfl (fun _ hc => dv_load rfl (ld_sls (sz := 1) (off := 0) (hh_s.keep (hKb.trans hc)) hx5 (fun _ => rfl) rfl rfl rfl)) ?_
 obtain ⟨x7, hx7⟩ := get_el (xs := m.ps) (i := (x5).toNat) (by omega)
 refine wd (sp m.pa (((x5).toNat) * 3)) rfl rfl (fun _ hc => dv_indexAddr (a := sv m.pa m.pn m.pc) (b := iv x5) rfl rfl (ix_sls (n := m.pn) (i := ((x5).toNat)) (hm_ps.keep (hKb.trans hc)) hx7 rfl rfl (by omega) (by omega))) ?_
 refine wd (va x7) rfl rfl (fun _ hc => dv_load rfl (ld_slsA (sz := 3) (m := 3) (ys := [fl x7.x, fl x7.y, fl x7.z]) (off := 0) (hm_ps.keep (hKb.trans hc)) hx7 (fun _ => rfl) rfl rfl (Nat.le_of_ble_eq_true rfl) rfl)) ?_
 refine W_call (vs := [va x4, va x7]) rfl rfl rfl rfl rfl rfl rfl (l01Add_ok x4 x7 _) ?_
 rintro _ H ⟨v8, rfl, rfl, hQ⟩
 have hM := hM.up hQ.keep
 refine ⟨hM.keep, ?_⟩
 refine wd (pt m_p m_o) rfl rfl (fun _ hc => dv_move rfl) ?_
 refine wd (pt m_p m_o) rfl rfl (fun _ hc => dv_nilCheck rfl) ?_
 refine wd (pt m_p m_o) rfl rfl (fun _ hc => dv_fieldAddr rfl rfl) ?_
 refine wd (sv m.pa m.pn m.pc) rfl rfl (fun _ hc => dv_load rfl (ld_pv (off := 0) (hmpv.keep (hKb.trans hc)) rfl rfl rfl)) ?_
 refine wd (sv h_a h_n h_c) rfl rfl (fun _ hc => dv_move rfl) ?_
 obtain ⟨x9, hx9⟩ := get_el (xs := h) (i := 0) (by omega)
 have ht10 := hinP_get hh0 hx9
 refine wd (sp h_a (0 * 1)) rfl rfl (fun _ hc => dv_indexAddr (a := sv h_a h_n h_c) (b := iv 0) rfl rfl (ix_sls (n := h_n) (i := 0) (hh_s.keep (hKb.trans hc)) hx9 rfl rfl rfl (by omega))) ?_
 refine wd (iv x9) rfl rfl (fun _ hc => dv_load rfl (ld_sls (sz := 1) (off := 0) (hh_s.keep (hKb.trans hc)) hx9 (fun _ => rfl) rfl rfl rfl)) ?_
 obtain ⟨x11, hx11⟩ := get_el (xs := m.ps) (i := (x9).toNat) (by omega)
 refine wd (sp m.pa (((x9).toNat) * 3)) rfl rfl (fun _ hc => dv_indexAddr (a := sv m.pa m.pn m.pc) (b := iv x9) rfl rfl (ix_sls (n := m.pn) (i := ((x9).toNat)) (hm_ps.keep (hKb.trans hc)) hx11 rfl rfl (by omega) (by omega))) ?_
 refine wd (va x11) rfl rfl (fun _ hc => dv_load rfl (ld_slsA (sz := 3) (m := 3) (ys := [fl x11.x, fl x11.y, fl x11.z]) (off := 0) (hm_ps.keep (hKb.trans hc)) hx11 (fun _ => rfl) rfl rfl (Nat.le_of_ble_eq_true rfl) rfl)) ?_
 refine wd (pt m_p m_o) rfl rfl (fun _ hc => dv_move rfl) ?_
 refine wd (pt m_p m_o) rfl rfl (fun _ hc => dv_nilCheck rfl) ?_
 refine wd (pt m_p m_o) rfl rfl (fun _ hc => dv_fieldAddr rfl rfl) ?_
 refine wd (sv m.pa m.pn m.pc) rfl rfl (fun _ hc => dv_load rfl (ld_pv (off := 0) (hmpv.keep (hKb.trans hc)) rfl rfl rfl)) ?_
 refine wd (sv h_a h_n h_c) rfl rfl (fun _ hc => dv_move rfl) ?_
 obtain ⟨x12, hx12⟩ := get_el (xs := h) (i := 1) (by omega)
 have ht13 := hinP_get hh0 hx12
 refine wd (sp h_a (1 * 1)) rfl rfl (fun _ hc => dv_indexAddr (a := sv h_a h_n h_c) (b := iv 1) rfl rfl (ix_sls (n := h_n) (i := 1) (hh_s.keep (hKb.trans hc)) hx12 rfl rfl rfl (by omega))) ?_
 refine wd (iv x12) rfl rfl (fun _ hc => dv_load rfl (ld_sls (sz := 1) (off := 0) (hh_s.keep (hKb.trans hc)) hx12 (fun _ => rfl) rfl rfl rfl)) ?_
 obtain ⟨x14, hx14⟩ := get_el (xs := m.ps) (i := (x12).toNat) (by omega)
 refine wd (sp m.pa (((x12).toNat) * 3)) rfl rfl (fun _ hc => dv_indexAddr (a := sv m.pa m.pn m.pc) (b := iv x12) rfl rfl (ix_sls (n := m.pn) (i := ((x12).toNat)) (hm_ps.keep (hKb.trans hc)) hx14 rfl rfl (by omega) (by omega))) ?_
 refine wd (va x14) rfl rfl (fun _ hc => dv_load rfl (ld_slsA (sz := 3) (m := 3) (ys := [fl x14.x, fl x14.y, fl x14.z]) (off := 0) (hm_ps.keep (hKb.trans hc)) hx14 (fun _ => rfl) rfl rfl (Nat.le_of_ble_eq_true rfl) rfl)) ?_
 refine W_call (vs := [va x11, va x14]) rfl rfl rfl rfl rfl rfl rfl (l01Add_ok x11 x14 _) ?_
 rintro _ H ⟨v15, rfl, rfl, hQ⟩
 have hM := hM.up hQ.keep
 refine ⟨hM.keep, ?_⟩
 refine W_call (vs := [.agg #[fl ((vadd x4 x7).x), fl ((vadd x4 x7).y), fl ((vadd x4 x7).z)], .agg #[fl ((vadd x11 x14).x), fl ((vadd x11 x14).y), fl ((vadd x11 x14).z)]]) rfl rfl rfl rfl rfl rfl rfl (l01Less_ok (vadd x4 x7) (vadd x11 x14) _) ?_
 rintro _ H ⟨v16, rfl, rfl, hQ⟩
 have hM := hM.up hQ.keep
 refine ⟨hM.keep, ?_⟩
 have hS := hR _ _ hM
 refine D_store (i := 0) (yv := .agg #[fl ((vsub (vadd x4 x7) (vadd x11 x14)).x), fl ((vsub (vadd x4 x7) (vadd x11 x14)).y), fl ((vsub (vadd x4 x7) (vadd x11 x14)).z)]) (l' := [fl ((vsub (vadd x4 x7) (vadd x11 x14)).x), fl ((vsub (vadd x4 x7) (vadd x11 x14)).y), fl ((vsub (vadd x4 x7) (vadd x11 x14)).z)]) hS rfl rfl rfl rfl rfl rfl rfl rfl rfl rfl rfl rfl rfl fun H hS => ?_
 refine th_norm ?_
 refine AWp_ret (?_)
 refine ret_of ?_
 refine readsRes_of (rs := [.cell 4 41]) (vs := [.agg #[fl ((vsub (vadd x4 x7) (vadd x11 x14)).x), fl ((vsub (vadd x4 x7) (vadd x11 x14)).y), fl ((vsub (vadd x4 x7) (vadd x11 x14)).z)]]) rfl (re_cons (re_cell (p := pt b1 0) rfl (ld_boxA (n := 3) (hS.box 0 rfl) rfl rfl (Nat.le_of_ble_eq_true rfl) rfl)) (re_nil)) rfl ?_
 refine ⟨(vsub (vadd x4 x7) (vadd x11 x14)), ?_, rfl, .base hS.keep⟩
 · simp only [bentD, gD 0 hx2, at3_of hx4, gD 0 hx5, at3_of hx7, gD 0 hx9, at3_of hx11, gD 0 hx12, at3_of hx14] <;> first | assumption | omega
theorem l00Own_ok (a_a : Option Addr) (a_n a_c : Nat) (a : List (Int)) (H : AH) (ha : VS H encI a_a a_n a) : ACalls Tryz.prog 141 [sv a_a a_n a_c] H
  (fun r H' => ∃ (x_a : Option Addr), ∃ (x_n : Nat), ∃ (x_c : Nat), ∃ (x_ : List (Int)), x_ = a ∧ x_.length = x_n ∧ r = sv x_a x_n x_c ∧ SepL H [sl encI 2 1 x_a x_c x_] H') := by
 refine ACalls_of Tryz.func141 rfl (Nat.le_of_ble_eq_true rfl) ?_
 obtain ⟨H0, hH0⟩ : ∃ H0, H0 = H := ⟨_, rfl⟩
 have hS : SepL H0 [] H := hH0 ▸ SepL.refl H
 subst hH0
 obtain ⟨ha_s, ha_n, ha_b⟩ := id ha
 refine AWp_seq ?_
 refine AWp_E rfl ?_
 refine ed (sv none 0 0) rfl rfl (dv_assign rfl) ?_
 refine E_nil ?_
 refine th_norm ?_
 refine AWp_seq ?_
 refine AWp_E rfl ?_
 refine S_lit (sz := 1) (enc := encI) (xs := ([] : List Int)) (n := 0) hS rfl rfl rfl rfl rfl rfl rfl rfl fun a1 H hS => ?_
 refine ed (sv a_a a_n a_c) rfl rfl (dv_move rfl) ?_
 refine S_append (k := 0) (bytes := 8) (enc := encI) (xs := ([] : List Int)) (ys := a) hS rfl rfl rfl rfl rfl rfl rfl rfl rfl rfl (fun _ => rfl) (fun _ => rfl) rfl rfl rfl ha_n (ha_s.keep hS.keep) (by omega) (by omega) fun a2 c3 x4 H hx5 hn6 hS => ?_
 refine ed (sv a2 x4.length c3) rfl rfl (dv_assign rfl) ?_
 refine E_nil ?_
 refine th_norm ?_
 refine AWp_ret (?_)
 refine ret_of ?_
 refine readsRes_of (rs := [.tmp 2]) (vs := [sv a2 x4.length c3]) rfl (re_cons (re_tmp rfl) (re_nil)) rfl ?_
 refine ⟨a2, x4.length, c3, x4, ?_, rfl, rfl, hS.pick [0] rfl⟩
 · simp [hx5]
theorem l02Own_ok (m_p m_o : Nat) (m : LM) (H : AH) (hmpv : PV H m_p m_o m.v) (hm : m.ok H) : ACalls Tryz.prog 116 [pt m_p m_o] H
  (fun r H' => ∃ (b_ : LM), b_.d = m.d ∧ (b_.ps.length = b_.pn ∧ b_.ts.length = b_.tn) ∧ (∀ q ∈ b_.ts, q.xs.length ≤ 1048576) ∧ r = mva b_ ∧ SepL H [sl encV 41 3 b_.pa b_.pc b_.ps, sl encR 53 1 b_.ta b_.tc b_.ts, rowsE 2 b_.ts] H') := by
 refine ACalls_of Tryz.func116 rfl (Nat.le_of_ble_eq_true rfl) ?_
 obtain ⟨H0, hH0⟩ : ∃ H0, H0 = H := ⟨_, rfl⟩
 have hS : SepL H0 [] H := hH0 ▸ SepL.refl H
 subst hH0
 obtain ⟨⟨hm_ps, hm_pn, hm_pb⟩, hm_ts, hm_tn, hm_tb⟩ := id hm
 refine AWp_seq ?_
 refine AWp_E rfl ?_
 refine S_box (l := [sv none 0 0, sv none 0 0]) hS rfl rfl rfl rfl rfl fun b1 H hS => ?_
 refine E_nil ?_
 refine th_norm ?_
 refine AWp_seq ?_
 refine AWp_E rfl ?_
 refine S_lit (sz := 3) (enc := encV) (xs := ([] : List V3)) (n := 0) hS rfl rfl rfl rfl rfl rfl rfl rfl fun a2 H hS => ?_
 refine ed (pt m_p m_o) rfl rfl (dv_move rfl) ?_
 refine ed (pt m_p m_o) rfl rfl (dv_nilCheck rfl) ?_
 refine ed (pt m_p m_o) rfl rfl (dv_fieldAddr rfl rfl) ?_
 refine ed (sv m.pa m.pn m.pc) rfl rfl (dv_load rfl (ld_pv (off := 0) (hmpv.keep hS.keep) rfl rfl rfl)) ?_
 refine S_append (k := 1) (bytes := 12) (enc := encV) (xs := ([] : List V3)) (ys := m.ps) hS rfl rfl rfl rfl rfl rfl rfl rfl rfl rfl (fun _ => rfl) (fun _ => rfl) rfl rfl rfl hm_pn (hm_ps.keep hS.keep) (by omega) (by omega) fun a3 c4 x5 H hx6 hn7 hS => ?_
 refine S_lit (sz := 1) (enc := encR) (xs := ([] : List Row)) (n := 0) hS rfl rfl rfl rfl rfl rfl rfl rfl fun a8 H hS => ?_
 refine ed (.agg #[sv a3 x5.length c4, sv a8 0 0]) rfl rfl (dv_buildZ (vs := [(0, sv a3 x5.length c4), (1, sv a8 0 0)]) rfl rfl rfl rfl rfl rfl) ?_
 refine S_box (l := [sv none 0 0, sv none 0 0]) hS rfl rfl rfl rfl rfl fun b9 H hS => ?_
 refine S_store (i := 3) (yv := .agg #[sv a3 x5.length c4, sv a8 0 0]) (l' := [sv a3 x5.length c4, sv a8 0 0]) hS rfl rfl rfl rfl rfl rfl rfl rfl rfl rfl rfl rfl fun H hS => ?_
 refine E_nil ?_
 refine th_norm ?_
 refine AWp_seq ?_
 refine AWp_seq ?_
 refine AWp_E rfl ?_
 refine ed (iv 0) rfl rfl (dv_assign rfl) ?_
 refine E_nil ?_
 refine th_norm ?_
 refine AWp_block ?_
 have hS := hS.zero (rowE1 2)
 obtain ⟨I10, hI10⟩ : ∃ I : Nat → Env → AH → Prop, ∀ m_ e_ Hl, I m_ e_ Hl = (∃ (i : Nat) (wa : Option Addr) (wc : Nat) (w : List (Row)), m_ = m.tn - i ∧ AllE [(0, pt m_p m_o), (2, pt b1 0), (3, pt b9 0), (4, iv ((i : Nat) : Int)), (5, sv a2 0 0), (6, pt m_p m_o), (7, pt m_p m_o), (8, pt m_p m_o), (9, sv m.pa m.pn m.pc), (10, sv a3 x5.length c4), (11, sv a8 0 0), (12, .agg #[sv a3 x5.length c4, sv a8 0 0])] e_ ∧ SepL H0 [box b1 [sv none 0 0, sv none 0 0] 39, sl encV 41 3 a3 c4 x5, sl encR 53 1 wa wc w, box b9 [sv a3 x5.length c4, sv wa w.length wc] 39, rowsE 2 w] Hl ∧ (i ≤ m.tn) ∧ (rxs w = (rxs m.ts).take i) ∧ (∀ q ∈ w, q.xs.length ≤ 1048576)) := ⟨_, fun _ _ _ => rfl⟩
 refine AWp_loop I10 (m.tn - (0)) ?_ ?_
 ·
  rw [hI10]
  refine ⟨0, a8, 0, ([] : List Row), rfl, (all_c rfl (all_c rfl (all_c rfl (all_c rfl (all_c rfl (all_c rfl (all_c rfl (all_c rfl (all_c rfl (all_c rfl (all_c rfl (all_c rfl all_n)))))))))))), hS, ?_, ?_, ?_⟩
  · omega
  · rfl
  · simp
 ·
  intro m11 _ H hl12
  rw [hI10] at hl12
  obtain ⟨i, wa, wc, w, hm13, he14, hS, hi, hw, hwl⟩ := hl12
  obtain ⟨e15, rfl⟩ := he14.ex
  have hwn : w.length = i := by have h1 := congrArg List.length hw; rw [rxs, List.length_map, List.length_take, rxs, List.length_map] at h1; omega
  refine AWp_seq ?_
  refine AWp_seq ?_
  refine AWp_E rfl ?_
  refine ed (iv ((i : Nat) : Int)) rfl rfl (dv_move rfl) ?_
  refine ed (pt m_p m_o) rfl rfl (dv_move rfl) ?_
  refine ed (pt m_p m_o) rfl rfl (dv_nilCheck rfl) ?_
  refine ed (pt m_p (m_o + 1)) rfl rfl (dv_fieldAddr rfl rfl) ?_
  refine ed (sv m.ta m.tn m.tc) rfl rfl (dv_load rfl (ld_pv (off := 1) (hmpv.keep hS.keep) rfl rfl rfl)) ?_
  refine ed (iv ((m.tn : Nat) : Int)) rfl rfl (dv_len rfl rfl rfl rfl rfl) ?_
  rcases Decidable.em (((i : Nat) : Int) < ((m.tn : Nat) : Int)) with hc16 | hc16
  ·
   refine ed yes rfl rfl (dv_bin rfl rfl (bi_lss_t hc16)) ?_
   refine E_nil ?_
   refine th_norm ?_
   refine AWp_cond (t := true) rfl (fun _ => ?_) nofun
   refine AWp_skip ?_
   refine th_norm ?_
   refine AWp_seq ?_
   refine AWp_block ?_
   obtain ⟨Hx, hK, hKx, hM, hR⟩ := hS.split [2] rfl
   have hB := fun Hc (hc : Keep Hx Hc) => hR [] Hc (.base hc)
   refine AWp_D hKx rfl (by decide +kernel) ?_
   refine wd (pt b9 1) rfl rfl (fun _ hc => dv_fieldAddr rfl rfl) ?_
   refine wd (sv wa w.length wc) rfl rfl (fun _ hc => dv_load rfl (ld_box ((hB _ hc).box 2 rfl) rfl rfl rfl)) ?_
   refine wd (pt m_p m_o) rfl rfl (fun _ hc => dv_move rfl) ?_
   refine wd (pt m_p m_o) rfl rfl (fun _ hc => dv_nilCheck rfl) ?_
   refine wd (pt m_p (m_o + 1)) rfl rfl (fun _ hc => dv_fieldAddr rfl rfl) ?_
   refine wd (sv m.ta m.tn m.tc) rfl rfl (fun _ hc => dv_load rfl (ld_pv (off := 1) (hmpv.keep (hK.trans hc)) rfl rfl rfl)) ?_
   refine wd (iv ((i : Nat) : Int)) rfl rfl (fun _ hc => dv_move rfl) ?_
   obtain ⟨x17, hx17⟩ := get_el (xs := m.ts) (i := i) (by omega)
   have hv18 := hm_ts.el hx17
   have hv18l := hv18.2
   refine wd (sp m.ta (i * 1)) rfl rfl (fun _ hc => dv_indexAddr (a := sv m.ta m.tn m.tc) (b := iv ((i : Nat) : Int)) rfl rfl (ix_sls (n := m.tn) (i := i) (hm_ts.1.keep (hK.trans hc)) hx17 rfl rfl rfl (by omega))) ?_
   refine wd (sv x17.a x17.xs.length x17.c) rfl rfl (fun _ hc => dv_load rfl (ld_sls (sz := 1) (off := 0) (hm_ts.1.keep (hK.trans hc)) hx17 (fun _ => rfl) rfl rfl rfl)) ?_
   refine W_call (vs := [sv x17.a x17.xs.length x17.c]) rfl rfl rfl rfl rfl rfl rfl (l00Own_ok x17.a x17.xs.length x17.c x17.xs _ ⟨(hv18.1.keep (hK.trans hM.keep)), rfl, hv18.2⟩) ?_
   rintro _ H ⟨x19, x20, x21, x22, h23, rfl, rfl, hQ⟩
   have hlh23 := congrArg List.length h23
   have hM := hM.push hQ
   refine ⟨hM.keep, ?_⟩
   refine D_lit (sz := 1) (enc := encR) (xs := ([(⟨x19, x21, x22⟩ : Row)] : List (Row))) (n := 1) hM rfl rfl rfl rfl rfl rfl rfl rfl fun a24 H hM => ?_
   refine D_append (k := 0) (bytes := 24) (enc := encR) (xs := w) (ys := ([(⟨x19, x21, x22⟩ : Row)] : List (Row))) hM rfl rfl rfl rfl rfl rfl rfl rfl rfl rfl (fun _ => rfl) (fun _ => rfl) rfl rfl rfl rfl ((hR _ _ hM).sls 6 rfl) (by omega) (by omega) fun a25 c26 x27 H hx28 hn29 hM => ?_
   refine wd (pt b9 1) rfl rfl (fun _ hc => dv_fieldAddr rfl rfl) ?_
   have hS := hR _ _ hM
   refine D_store (i := 2) (yv := sv a25 x27.length c26) (l' := [sv a3 x5.length c4, sv a25 x27.length c26]) hS rfl rfl rfl rfl rfl rfl rfl rfl rfl rfl rfl rfl rfl fun H hS => ?_
   refine bl_norm ?_
   refine th_norm ?_
   refine AWp_E rfl ?_
   refine ed (iv ((i : Nat) : Int)) rfl rfl (dv_move rfl) ?_
   refine ed (iv ((i + 1 : Nat) : Int)) rfl rfl (dv_bin rfl rfl (bi_add (by omega))) ?_
   refine ed (iv ((i + 1 : Nat) : Int)) rfl rfl (dv_assign rfl) ?_
   refine E_nil ?_
   have hS := hS.join (f := rowE1 2) (q := (⟨x19, x21, x22⟩ : Row)) 3 5 rfl rfl rfl
   rw [← hx28] at hS
   have hlj : ∀ q ∈ x27, q.xs.length ≤ 1048576 := by
     rw [hx28]
     intro q hq
     rcases List.mem_append.1 hq with hq | hq
     · exact hwl q hq
     · rw [List.mem_singleton.1 hq]; dsimp only; omega
   refine loop_next (I := I10) (m.tn - (i + 1)) (by rw [hm13]; omega) ?_
   rw [hI10]
   refine ⟨i + 1, a25, c26, x27, rfl, (all_c rfl (all_c rfl (all_c rfl (all_c rfl (all_c rfl (all_c rfl (all_c rfl (all_c rfl (all_c rfl (all_c rfl (all_c rfl (all_c rfl all_n)))))))))))), (hS.pick [0, 1, 3, 2, 5] rfl), ?_, ?_, ?_⟩
   · omega
   · rw [hx28, rxs, List.map_append, ← rxs, hw, take_step (map_get (f := Row.xs) hx17)]; simp [*]
   · exact hlj
  ·
   refine ed no rfl rfl (dv_bin rfl rfl (bi_lss_f hc16)) ?_
   refine E_nil ?_
   refine th_norm ?_
   refine AWp_cond (t := false) rfl nofun (fun _ => ?_)
   refine AWp_exit (th_exit (th_exit (bl_exit (?_))))
   refine th_norm ?_
   refine AWp_seq ?_
   refine AWp_E rfl ?_
   refine ed (.agg #[sv a3 x5.length c4, sv wa w.length wc]) rfl rfl (dv_load rfl (ld_boxA (n := 2) (hS.box 3 rfl) rfl rfl (Nat.le_of_ble_eq_true rfl) rfl)) ?_
   refine S_store (i := 0) (yv := .agg #[sv a3 x5.length c4, sv wa w.length wc]) (l' := [sv a3 x5.length c4, sv wa w.length wc]) hS rfl rfl rfl rfl rfl rfl rfl rfl rfl rfl rfl rfl fun H hS => ?_
   refine E_nil ?_
   refine th_norm ?_
   refine AWp_ret (?_)
   refine ret_of ?_
   refine readsRes_of (rs := [.cell 2 39]) (vs := [.agg #[sv a3 x5.length c4, sv wa w.length wc]]) rfl (re_cons (re_cell (p := pt b1 0) rfl (ld_boxA (n := 2) (hS.box 0 rfl) rfl rfl (Nat.le_of_ble_eq_true rfl) rfl)) (re_nil)) rfl ?_
   refine ⟨⟨a3, c4, x5.length, x5, wa, wc, w.length, w⟩, ?_, ?_, ?_, rfl, hS.pick [1, 2, 4] rfl⟩
   · have hti : (rxs m.ts).take i = rxs m.ts := List.take_of_length_le (by rw [rxs, List.length_map]; omega)
     rw [hti] at hw
     simp [LM.d, hx6, hw]
   · exact ⟨rfl, rfl⟩
   · exact hwl
theorem l03Own_ok (b_p b_o : Nat) (b : LB) (H : AH) (hbpv : PV H b_p b_o b.v) (hb : b.ok H) : ACalls Tryz.prog 87 [pt b_p b_o] H
  (fun r H' => ∃ (b_ : LB), b_.d = b.d ∧ (b_.m.ps.length = b_.m.pn ∧ b_.m.ts.length = b_.m.tn) ∧ (∀ q ∈ b_.m.ts, q.xs.length ≤ 1048576) ∧ (b_.ss.length = b_.sn ∧ b_.ws.length = b_.wn) ∧ r = bva b_ ∧ SepL H [sl encV 41 3 b_.m.pa b_.m.pc b_.m.ps, sl encR 53 1 b_.m.ta b_.m.tc b_.m.ts, rowsE 2 b_.m.ts, sl encS 116 4 b_.sa b_.sc b_.ss, sl encF 27 1 b_.wa b_.wc b_.ws] H') := by
 refine ACalls_of Tryz.func87 rfl (Nat.le_of_ble_eq_true rfl) ?_
 obtain ⟨H0, hH0⟩ : ∃ H0, H0 = H := ⟨_, rfl⟩
 have hS : SepL H0 [] H := hH0 ▸ SepL.refl H
 subst hH0
 obtain ⟨⟨hb_1_ps, hb_1_pn, hb_1_pb⟩, hb_1_ts, hb_1_tn, hb_1_tb⟩ := id hb.1
 obtain ⟨⟨hb_ss, hb_sn, hb_sb⟩, hb_ws, hb_wn, hb_wb⟩ := hb.2
 refine AWp_seq ?_
 refine AWp_E rfl ?_
 refine S_box (l := [sv none 0 0, sv none 0 0, sv none 0 0, fl 0, fl 0, sv none 0 0, fl 0, fl 0, fl 0]) hS rfl rfl rfl rfl rfl fun b1 H hS => ?_
 refine E_nil ?_
 refine th_norm ?_
 refine AWp_seq ?_
 refine AWp_E rfl ?_
 refine ed (pt b_p b_o) rfl rfl (dv_move rfl) ?_
 refine ed (pt b_p b_o) rfl rfl (dv_nilCheck rfl) ?_
 refine ed (bva b) rfl rfl (dv_load rfl (ld_pvA (off := 0) (n := 9) (hbpv.keep hS.keep) rfl rfl rfl rfl)) ?_
 refine S_box (l := [sv none 0 0, sv none 0 0, sv none 0 0, fl 0, fl 0, sv none 0 0, fl 0, fl 0, fl 0]) hS rfl rfl rfl rfl rfl fun b2 H hS => ?_
 refine S_store (i := 1) (yv := bva b) (l' := [sv b.m.pa b.m.pn b.m.pc, sv b.m.ta b.m.tn b.m.tc, sv b.sa b.sn b.sc, fl b.film, fl b.bend, sv b.wa b.wn b.wc, fl b.fall.x, fl b.fall.y, fl b.fall.z]) hS rfl rfl rfl rfl rfl rfl rfl rfl rfl rfl rfl rfl fun H hS => ?_
 refine E_nil ?_
 refine th_norm ?_
 refine AWp_seq ?_
 refine AWp_E rfl ?_
 refine ed (pt b_p b_o) rfl rfl (dv_move rfl) ?_
 refine ed (pt b_p b_o) rfl rfl (dv_nilCheck rfl) ?_
 refine ed (pt b_p b_o) rfl rfl (dv_fieldAddr rfl rfl) ?_
 refine E_call (vs := [pt b_p b_o]) rfl rfl rfl rfl rfl rfl rfl (l02Own_ok b_p b_o b.m _ (PV.sub (j := 0) (n := 2) (hbpv.keep hS.keep) rfl rfl) (hb.1.keep hS.keep)) ?_
 rintro _ H ⟨b3, h4, h5, h6, rfl, hQ⟩
 have hdlh4 : b3.ps.length = b.m.ps.length := congrArg (fun d : Msh => d.ps.length) h4
 have hdth4 : (rxs b3.ts).length = (rxs b.m.ts).length := congrArg (fun d : Msh => d.ts.length) h4
 simp only [rxs, List.length_map] at hdth4
 have hS := hS.push hQ
 refine ed (pt b2 0) rfl rfl (dv_fieldAddr rfl rfl) ?_
 refine S_store (i := 1) (yv := mva b3) (l' := [sv b3.pa b3.pn b3.pc, sv b3.ta b3.tn b3.tc, sv b.sa b.sn b.sc, fl b.film, fl b.bend, sv b.wa b.wn b.wc, fl b.fall.x, fl b.fall.y, fl b.fall.z]) hS rfl rfl rfl rfl rfl rfl rfl rfl rfl rfl rfl rfl fun H hS => ?_
 refine E_nil ?_
 refine th_norm ?_
 refine AWp_seq ?_
 refine AWp_E rfl ?_
 refine S_lit (sz := 4) (enc := encS) (xs := ([] : List Spr)) (n := 0) hS rfl rfl rfl rfl rfl rfl rfl rfl fun a7 H hS => ?_
 refine ed (pt b_p b_o) rfl rfl (dv_move rfl) ?_
 refine ed (pt b_p b_o) rfl rfl (dv_nilCheck rfl) ?_
 refine ed (pt b_p (b_o + 2)) rfl rfl (dv_fieldAddr rfl rfl) ?_
 refine ed (sv b.sa b.sn b.sc) rfl rfl (dv_load rfl (ld_pv (off := 2) (hbpv.keep hS.keep) rfl rfl rfl)) ?_
 refine S_append (k := 5) (bytes := 24) (enc := encS) (xs := ([] : List Spr)) (ys := b.ss) hS rfl rfl rfl rfl rfl rfl rfl rfl rfl rfl (fun _ => rfl) (fun _ => rfl) rfl rfl rfl hb_sn (hb_ss.keep hS.keep) (by omega) (by omega) fun a8 c9 x10 H hx11 hn12 hS => ?_
 refine ed (pt b2 2) rfl rfl (dv_fieldAddr rfl rfl) ?_
 refine S_store (i := 1) (yv := sv a8 x10.length c9) (l' := [sv b3.pa b3.pn b3.pc, sv b3.ta b3.tn b3.tc, sv a8 x10.length c9, fl b.film, fl b.bend, sv b.wa b.wn b.wc, fl b.fall.x, fl b.fall.y, fl b.fall.z]) hS rfl rfl rfl rfl rfl rfl rfl rfl rfl rfl rfl rfl fun H hS => ?_
 refine E_nil ?_
 refine th_norm ?_
 refine AWp_seq ?_
 refine AWp_E rfl ?_
 refine S_lit (sz := 1) (enc := encF) (xs := ([] : List Nat)) (n := 0) hS rfl rfl rfl rfl rfl rfl rfl rfl fun a13 H hS => ?_
 refine ed (pt b_p b_o) rfl rfl (dv_move rfl) ?_
 refine ed (pt b_p b_o) rfl rfl (dv_nilCheck rfl) ?_
 refine ed (pt b_p (b_o + 5)) rfl rfl (dv_fieldAddr rfl rfl) ?_
 refine ed (sv b.wa b.wn b.wc) rfl rfl (dv_load rfl (ld_pv (off := 5) (hbpv.keep hS.keep) rfl rfl rfl)) ?_
 refine S_append (k := 6) (bytes := 4) (enc := encF) (xs := ([] : List Nat)) (ys := b.ws) hS rfl rfl rfl rfl rfl rfl rfl rfl rfl rfl (fun _ => rfl) (fun _ => rfl) rfl rfl rfl hb_wn (hb_ws.keep hS.keep) (by omega) (by omega) fun a14 c15 x16 H hx17 hn18 hS => ?_
 refine ed (pt b2 5) rfl rfl (dv_fieldAddr rfl rfl) ?_
 refine S_store (i := 1) (yv := sv a14 x16.length c15) (l' := [sv b3.pa b3.pn b3.pc, sv b3.ta b3.tn b3.tc, sv a8 x10.length c9, fl b.film, fl b.bend, sv a14 x16.length c15, fl b.fall.x, fl b.fall.y, fl b.fall.z]) hS rfl rfl rfl rfl rfl rfl rfl rfl rfl rfl rfl rfl fun H hS => ?_
 refine E_nil ?_
 refine th_norm ?_
 refine AWp_seq ?_
 refine AWp_E rfl ?_
 refine ed (.agg #[sv b3.pa b3.pn b3.pc, sv b3.ta b3.tn b3.tc, sv a8 x10.length c9, fl b.film, fl b.bend, sv a14 x16.length c15, fl b.fall.x, fl b.fall.y, fl b.fall.z]) rfl rfl (dv_load rfl (ld_boxA (n := 9) (hS.box 1 rfl) rfl rfl (Nat.le_of_ble_eq_true rfl) rfl)) ?_
 refine S_store (i := 0) (yv := .agg #[sv b3.pa b3.pn b3.pc, sv b3.ta b3.tn b3.tc, sv a8 x10.length c9, fl b.film, fl b.bend, sv a14 x16.length c15, fl b.fall.x, fl b.fall.y, fl b.fall.z]) (l' := [sv b3.pa b3.pn b3.pc, sv b3.ta b3.tn b3.tc, sv a8 x10.length c9, fl b.film, fl b.bend, sv a14 x16.length c15, fl b.fall.x, fl b.fall.y, fl b.fall.z]) hS rfl rfl rfl rfl rfl rfl rfl rfl rfl rfl rfl rfl fun H hS => ?_
 refine E_nil ?_
 refine th_norm ?_
 refine AWp_ret (?_)
 refine ret_of ?_
 refine readsRes_of (rs := [.cell 2 43]) (vs := [.agg #[sv b3.pa b3.pn b3.pc, sv b3.ta b3.tn b3.tc, sv a8 x10.length c9, fl b.film, fl b.bend, sv a14 x16.length c15, fl b.fall.x, fl b.fall.y, fl b.fall.z]]) rfl (re_cons (re_cell (p := pt b1 0) rfl (ld_boxA (n := 9) (hS.box 0 rfl) rfl rfl (Nat.le_of_ble_eq_true rfl) rfl)) (re_nil)) rfl ?_
 refine ⟨⟨b3, a8, c9, x10.length, x10, b.film, b.bend, a14, c15, x16.length, x16, b.fall⟩, ?_, ?_, ?_, ?_, rfl, hS.pick [2, 3, 4, 5, 6] rfl⟩
 · simp_all [LB.d, LM.d]
 · simp_all
 · assumption
 · simp_all
theorem l03Forces_ok (b_p b_o : Nat) (b : LB) (H : AH) (hbpv : PV H b_p b_o b.v) (hb : b.ok H) (hb0 : Bod.ok b.d) : ACalls Tryz.prog 103 [pt b_p b_o] H
  (fun r H' => ∃ (x_a : Option Addr), ∃ (x_n : Nat), ∃ (x_c : Nat), ∃ (x_ : List (V3)), x_.length = b.m.ps.length ∧ x_ = forcesD b.d ∧ x_.length = x_n ∧ r = sv x_a x_n x_c ∧ SepL H [sl encV 41 3 x_a x_c x_] H') := by
 refine ACalls_of Tryz.func103 rfl (Nat.le_of_ble_eq_true rfl) ?_
 obtain ⟨H0, hH0⟩ : ∃ H0, H0 = H := ⟨_, rfl⟩
 have hS : SepL H0 [] H := hH0 ▸ SepL.refl H
 subst hH0
 obtain ⟨⟨hb_1_ps, hb_1_pn, hb_1_pb⟩, hb_1_ts, hb_1_tn, hb_1_tb⟩ := id hb.1
 obtain ⟨⟨hb_ss, hb_sn, hb_sb⟩, hb_ws, hb_wn, hb_wb⟩ := hb.2
 have hbm : meshP b.m.ps.length (rxs b.m.ts) := hb0.1
 have hbw : b.ws.length = b.m.ps.length := hb0.2.2.1
 have hbss : b.ss.length ≤ 200 := hb0.2.1
 have hbn : b.m.ps.length ≤ 64 := hbm.1
 have hhl := hinges_le b.m.ps.length (rxs b.m.ts) hbn
 refine AWp_seq ?_
 refine AWp_E rfl ?_
 refine ed (sv none 0 0) rfl rfl (dv_assign rfl) ?_
 refine E_nil ?_
 refine th_norm ?_
 refine AWp_seq ?_
 refine AWp_E rfl ?_
 refine ed (pt b_p b_o) rfl rfl (dv_move rfl) ?_
 refine ed (pt b_p b_o) rfl rfl (dv_nilCheck rfl) ?_
 refine ed (pt b_p b_o) rfl rfl (dv_fieldAddr rfl rfl) ?_
 refine ed (pt b_p b_o) rfl rfl (dv_assign rfl) ?_
 refine E_nil ?_
 refine th_norm ?_
 refine AWp_seq ?_
 refine AWp_E rfl ?_
 refine ed (pt b_p b_o) rfl rfl (dv_move rfl) ?_
 refine ed (pt b_p b_o) rfl rfl (dv_nilCheck rfl) ?_
 refine ed (pt b_p b_o) rfl rfl (dv_fieldAddr rfl rfl) ?_
 refine ed (sv b.m.pa b.m.pn b.m.pc) rfl rfl (dv_load rfl (ld_pv (off := 0) (hbpv.keep hS.keep) rfl rfl rfl)) ?_
 refine ed (iv ((b.m.pn : Nat) : Int)) rfl rfl (dv_len rfl rfl rfl rfl rfl) ?_
 refine S_make (sz := 3) (enc := encV) (z := v0) hS rfl rfl rfl (dn_make (nb := 12) (n := b.m.pn) (zs := [fl 0, fl 0, fl 0]) rfl rfl rfl rfl rfl rfl rfl (by omega) (by omega)) rfl rfl (by unfold maxLen; omega) fun a1 x2 H hx3 hn4 hS => ?_
 refine ed (sv a1 b.m.pn b.m.pn) rfl rfl (dv_assign rfl) ?_
 refine E_nil ?_
 refine th_norm ?_
 refine AWp_seq ?_
 refine AWp_seq ?_
 refine AWp_E rfl ?_
 refine ed (pt b_p b_o) rfl rfl (dv_move rfl) ?_
 refine ed (pt b_p b_o) rfl rfl (dv_nilCheck rfl) ?_
 refine ed (pt b_p (b_o + 2)) rfl rfl (dv_fieldAddr rfl rfl) ?_
 refine ed (sv b.sa b.sn b.sc) rfl rfl (dv_load rfl (ld_pv (off := 2) (hbpv.keep hS.keep) rfl rfl rfl)) ?_
 refine ed (iv ((b.sn : Nat) : Int)) rfl rfl (dv_len rfl rfl rfl rfl rfl) ?_
 refine ed (iv 0) rfl rfl (dv_move rfl) ?_
 refine E_nil ?_
 refine th_norm ?_
 refine AWp_block ?_
 obtain ⟨I5, hI5⟩ : ∃ I : Nat → Env → AH → Prop, ∀ m_ e_ Hl, I m_ e_ Hl = (∃ (i : Nat) (o : List (V3)), m_ = b.sn - i ∧ AllE [(0, pt b_p b_o), (2, sv none 0 0), (3, pt b_p b_o), (4, sv a1 b.m.pn b.m.pn), (20, pt b_p b_o), (21, pt b_p b_o), (22, pt b_p b_o), (23, pt b_p b_o), (24, pt b_p b_o), (25, pt b_p b_o), (26, sv b.m.pa b.m.pn b.m.pc), (27, iv ((b.m.pn : Nat) : Int)), (28, sv a1 b.m.pn b.m.pn), (29, pt b_p b_o), (30, pt b_p b_o), (31, pt b_p (b_o + 2)), (32, sv b.sa b.sn b.sc), (33, iv ((b.sn : Nat) : Int)), (34, iv ((i : Nat) : Int))] e_ ∧ SepL H0 [sl encV 41 3 a1 b.m.pn o] Hl ∧ o.length = b.m.pn ∧ (i ≤ b.sn) ∧ (o = (iter (force0 b.d) (List.replicate b.m.ps.length v0) i))) := ⟨_, fun _ _ _ => rfl⟩
 refine AWp_loop I5 (b.sn - (0)) ?_ ?_
 ·
  rw [hI5]
  refine ⟨0, x2, rfl, (all_c rfl (all_c rfl (all_c rfl (all_c rfl (all_c rfl (all_c rfl (all_c rfl (all_c rfl (all_c rfl (all_c rfl (all_c rfl (all_c rfl (all_c rfl (all_c rfl (all_c rfl (all_c rfl (all_c rfl (all_c rfl (all_c rfl all_n))))))))))))))))))), hS, hn4, ?_, ?_⟩
  · omega
  · rw [hx3, hb_1_pn]; rfl
 ·
  intro m6 _ H hl7
  rw [hI5] at hl7
  obtain ⟨i, o, hm8, he9, hS, ho_n, hi, ho⟩ := hl7
  obtain ⟨e10, rfl⟩ := he9.ex
  refine AWp_seq ?_
  refine AWp_E rfl ?_
  rcases Decidable.em (((i : Nat) : Int) < ((b.sn : Nat) : Int)) with hc11 | hc11
  ·
   refine ed yes rfl rfl (dv_bin rfl rfl (bi_lss_t hc11)) ?_
   refine E_nil ?_
   refine th_norm ?_
   refine AWp_seq ?_
   refine AWp_cond (t := true) rfl (fun _ => ?_) nofun
   refine AWp_skip ?_
   refine th_norm ?_
   refine AWp_seq ?_
   refine AWp_block ?_
   refine AWp_seq ?_
   refine AWp_E rfl ?_
   refine ed (iv ((i : Nat) : Int)) rfl rfl (dv_move rfl) ?_
   refine ed (iv ((i : Nat) : Int)) rfl rfl (dv_assign rfl) ?_
   refine E_nil ?_
   refine th_norm ?_
   refine AWp_seq ?_
   refine AWp_E rfl ?_
   refine ed (pt b_p b_o) rfl rfl (dv_move rfl) ?_
   refine ed (pt b_p b_o) rfl rfl (dv_nilCheck rfl) ?_
   refine ed (pt b_p (b_o + 2)) rfl rfl (dv_fieldAddr rfl rfl) ?_
   refine ed (sv b.sa b.sn b.sc) rfl rfl (dv_load rfl (ld_pv (off := 2) (hbpv.keep hS.keep) rfl rfl rfl)) ?_
   refine ed (iv ((i : Nat) : Int)) rfl rfl (dv_move rfl) ?_
   obtain ⟨x12, hx12⟩ := get_el (xs := b.ss) (i := i) (by omega)
   have hsk : sprP b.m.ps.length x12 := hb0.2.2.2 _ (List.mem_of_getElem? hx12)
   have hsk2 := hsk
   unfold sprP inP at hsk2
   refine ed (sp b.sa (i * 4)) rfl rfl (dv_indexAddr (a := sv b.sa b.sn b.sc) (b := iv ((i : Nat) : Int)) rfl rfl (ix_sls (n := b.sn) (i := i) (hb_ss.keep hS.keep) hx12 rfl rfl rfl (by omega))) ?_
   refine ed (sp b.sa (i * 4)) rfl rfl (dv_assign rfl) ?_
   refine E_nil ?_
   refine th_norm ?_
   refine AWp_seq ?_
   refine AWp_E rfl ?_
   refine ed (pt b_p b_o) rfl rfl (dv_move rfl) ?_
   refine ed (sp b.sa (i * 4)) rfl rfl (dv_move rfl) ?_
   obtain ⟨p13, p13o, hp14, hv15⟩ := sls_pv (i := i) (sz := 4) (hb_ss.keep hS.keep) hx12 (fun _ => rfl)
   refine E_call (vs := [pt b_p b_o, pt p13 p13o]) rfl rfl rfl rfl rfl rfl (by simp only [List.map_cons, List.map_nil, ← hp14]; rfl) (l03Way_ok b_p b_o b p13 p13o x12 _ (hbpv.keep hS.keep) (hb.keep hS.keep) hv15 (by first | assumption | omega | (simp only [*]; assumption) | (simp_all; done))) ?_
   rintro _ H ⟨v16, v17, rfl, rfl, rfl, hQ⟩
   have hS := hS.up hQ.keep
   refine ed (.tuple #[.agg #[fl ((alongD b.m.ps x12).x), fl ((alongD b.m.ps x12).y), fl ((alongD b.m.ps x12).z)], fl (pullD (alongD b.m.ps x12) x12)]) rfl rfl (dv_move rfl) ?_
   refine ed (.agg #[fl ((alongD b.m.ps x12).x), fl ((alongD b.m.ps x12).y), fl ((alongD b.m.ps x12).z)]) rfl rfl (dv_extract rfl rfl) ?_
   refine ed (fl (pullD (alongD b.m.ps x12) x12)) rfl rfl (dv_extract rfl rfl) ?_
   refine S_box (l := [fl 0, fl 0, fl 0]) hS rfl rfl rfl rfl rfl fun b18 H hS => ?_
   refine S_store (i := 1) (yv := .agg #[fl ((alongD b.m.ps x12).x), fl ((alongD b.m.ps x12).y), fl ((alongD b.m.ps x12).z)]) (l' := [fl ((alongD b.m.ps x12).x), fl ((alongD b.m.ps x12).y), fl ((alongD b.m.ps x12).z)]) hS rfl rfl rfl rfl rfl rfl rfl rfl rfl rfl rfl rfl fun H hS => ?_
   refine ed (fl (pullD (alongD b.m.ps x12) x12)) rfl rfl (dv_assign rfl) ?_
   refine E_nil ?_
   refine th_norm ?_
   refine AWp_seq ?_
   have hR := hS.pushes
   have hKb := hS.keep
   have hB := fun Hc (hc : Keep _ Hc) => hR [] Hc (.base hc)
   refine AWp_D0 rfl (by decide +kernel) fun hM => ?_
   refine wd (sv a1 b.m.pn b.m.pn) rfl rfl (fun _ hc => dv_move rfl) ?_
   refine wd (sp b.sa (i * 4)) rfl rfl (fun _ hc => dv_move rfl) ?_
   refine wd (sp b.sa (i * 4)) rfl rfl (fun _ hc => dv_nilSp rfl (hb_ss.keep (hKb.trans hc)) hx12) ?_
   refine wd (sp b.sa (i * 4)) rfl rfl (fun _ hc => dv_fieldAddr (a := sp b.sa (i * 4)) rfl (fa_sls (k := i * 4) (off := 0) (hb_ss.keep (hKb.trans hc)) hx12 rfl rfl)) ?_
   refine wd (iv x12.A) rfl rfl (fun _ hc => dv_load rfl (ld_sls (sz := 4) (off := 0) (hb_ss.keep (hKb.trans hc)) hx12 (fun _ => rfl) rfl rfl rfl)) ?_
   refine wd (sv a1 b.m.pn b.m.pn) rfl rfl (fun _ hc => dv_move rfl) ?_
   refine wd (sp b.sa (i * 4)) rfl rfl (fun _ hc => dv_move rfl) ?_
   refine wd (sp b.sa (i * 4)) rfl rfl (fun _ hc => dv_nilSp rfl (hb_ss.keep (hKb.trans hc)) hx12) ?_
   refine wd (sp b.sa (i * 4)) rfl rfl (fun _ hc => dv_fieldAddr (a := sp b.sa (i * 4)) rfl (fa_sls (k := i * 4) (off := 0) (hb_ss.keep (hKb.trans hc)) hx12 rfl rfl)) ?_
   refine wd (iv x12.A) rfl rfl (fun _ hc => dv_load rfl (ld_sls (sz := 4) (off := 0) (hb_ss.keep (hKb.trans hc)) hx12 (fun _ => rfl) rfl rfl rfl)) ?_
   obtain ⟨x19, hx19⟩ := get_el (xs := o) (i := (x12.A).toNat) (by omega)
   refine wd (sp a1 (((x12.A).toNat) * 3)) rfl rfl (fun _ hc => dv_indexAddr (a := sv a1 b.m.pn b.m.pn) (b := iv x12.A) rfl rfl (ix_sls (n := b.m.pn) (i := ((x12.A).toNat)) ((hB _ hc).sls 0 rfl) hx19 rfl rfl (by omega) (by omega))) ?_
   refine wd (va x19) rfl rfl (fun _ hc => dv_load rfl (ld_slsA (sz := 3) (m := 3) (ys := [fl x19.x, fl x19.y, fl x19.z]) (off := 0) ((hB _ hc).sls 0 rfl) hx19 (fun _ => rfl) rfl rfl (Nat.le_of_ble_eq_true rfl) rfl)) ?_
   refine wd (.agg #[fl ((alongD b.m.ps x12).x), fl ((alongD b.m.ps x12).y), fl ((alongD b.m.ps x12).z)]) rfl rfl (fun _ hc => dv_load rfl (ld_boxA (n := 3) ((hB _ hc).box 1 rfl) rfl rfl (Nat.le_of_ble_eq_true rfl) rfl)) ?_
   refine wd (fl (pullD (alongD b.m.ps x12) x12)) rfl rfl (fun _ hc => dv_move rfl) ?_
   refine W_call (vs := [.agg #[fl ((alongD b.m.ps x12).x), fl ((alongD b.m.ps x12).y), fl ((alongD b.m.ps x12).z)], fl (pullD (alongD b.m.ps x12) x12)]) rfl rfl rfl rfl rfl rfl rfl (l01Scale_ok (alongD b.m.ps x12) (pullD (alongD b.m.ps x12) x12) _) ?_
   rintro _ H ⟨v20, rfl, rfl, hQ⟩
   have hM := hM.up hQ.keep
   refine ⟨hM.keep, ?_⟩
   refine W_call (vs := [va x19, .agg #[fl ((vscale (alongD b.m.ps x12) (pullD (alongD b.m.ps x12) x12)).x), fl ((vscale (alongD b.m.ps x12) (pullD (alongD b.m.ps x12) x12)).y), fl ((vscale (alongD b.m.ps x12) (pullD (alongD b.m.ps x12) x12)).z)]]) rfl rfl rfl rfl rfl rfl rfl (l01Add_ok x19 (vscale (alongD b.m.ps x12) (pullD (alongD b.m.ps x12) x12)) _) ?_
   rintro _ H ⟨v21, h22, rfl, hQ⟩
   have hM := hM.up hQ.keep
   refine ⟨hM.keep, ?_⟩
   refine wd (sp a1 (((x12.A).toNat) * 3)) rfl rfl (fun _ hc => dv_indexAddr (a := sv a1 b.m.pn b.m.pn) (b := iv x12.A) rfl rfl (ix_sls (n := b.m.pn) (i := ((x12.A).toNat)) ((hB _ hc).sls 0 rfl) hx19 rfl rfl (by omega) (by omega))) ?_
   have hS := hR _ _ hM
   refine D_storeS (k := 0) (i := ((x12.A).toNat)) (z' := v21) (off := 0) (yv := va v21) hS rfl rfl rfl rfl rfl (fun _ => rfl) rfl rfl rfl hx19 rfl rfl rfl rfl fun H hS => ?_
   have hx23 := set_get (z := v21) hx19
   refine th_norm ?_
   have hR := hS.pushes
   have hKb := hS.keep
   have hB := fun Hc (hc : Keep _ Hc) => hR [] Hc (.base hc)
   refine AWp_D0 rfl (by decide +kernel) fun hM => ?_
   refine wd (sv a1 b.m.pn b.m.pn) rfl rfl (fun _ hc => dv_move rfl) ?_
   refine wd (sp b.sa (i * 4)) rfl rfl (fun _ hc => dv_move rfl) ?_
   refine wd (sp b.sa (i * 4)) rfl rfl (fun _ hc => dv_nilSp rfl (hb_ss.keep (hKb.trans hc)) hx12) ?_
   refine wd (sp b.sa (i * 4 + 1)) rfl rfl (fun _ hc => dv_fieldAddr (a := sp b.sa (i * 4)) rfl (fa_sls (k := i * 4) (off := 1) (hb_ss.keep (hKb.trans hc)) hx12 rfl rfl)) ?_
   refine wd (iv x12.B) rfl rfl (fun _ hc => dv_load rfl (ld_sls (sz := 4) (off := 1) (hb_ss.keep (hKb.trans hc)) hx12 (fun _ => rfl) rfl rfl rfl)) ?_
   refine wd (sv a1 b.m.pn b.m.pn) rfl rfl (fun _ hc => dv_move rfl) ?_
   refine wd (sp b.sa (i * 4)) rfl rfl (fun _ hc => dv_move rfl) ?_
   refine wd (sp b.sa (i * 4)) rfl rfl (fun _ hc => dv_nilSp rfl (hb_ss.keep (hKb.trans hc)) hx12) ?_
   refine wd (sp b.sa (i * 4 + 1)) rfl rfl (fun _ hc => dv_fieldAddr (a := sp b.sa (i * 4)) rfl (fa_sls (k := i * 4) (off := 1) (hb_ss.keep (hKb.trans hc)) hx12 rfl rfl)) ?_
   refine wd (iv x12.B) rfl rfl (fun _ hc => dv_load rfl (ld_sls (sz := 4) (off := 1) (hb_ss.keep (hKb.trans hc)) hx12 (fun _ => rfl) rfl rfl rfl)) ?_
   obtain ⟨x24, hx24⟩ := get_el (xs := o.set ((x12.A).toNat) v21) (i := (x12.B).toNat) (by first | omega | (simp only [List.length_set]; omega))
   refine wd (sp a1 (((x12.B).toNat) * 3)) rfl rfl (fun _ hc => dv_indexAddr (a := sv a1 b.m.pn b.m.pn) (b := iv x12.B) rfl rfl (ix_sls (n := b.m.pn) (i := ((x12.B).toNat)) ((hB _ hc).sls 0 rfl) hx24 rfl rfl (by omega) (by omega))) ?_
   refine wd (va x24) rfl rfl (fun _ hc => dv_load rfl (ld_slsA (sz := 3) (m := 3) (ys := [fl x24.x, fl x24.y, fl x24.z]) (off := 0) ((hB _ hc).sls 0 rfl) hx24 (fun _ => rfl) rfl rfl (Nat.le_of_ble_eq_true rfl) rfl)) ?_
   refine wd (.agg #[fl ((alongD b.m.ps x12).x), fl ((alongD b.m.ps x12).y), fl ((alongD b.m.ps x12).z)]) rfl rfl (fun _ hc => dv_load rfl (ld_boxA (n := 3) ((hB _ hc).box 1 rfl) rfl rfl (Nat.le_of_ble_eq_true rfl) rfl)) ?_
   refine wd (fl (pullD (alongD b.m.ps x12) x12)) rfl rfl (fun _ hc => dv_move rfl) ?_
   refine wd (fl (fneg .f32 (pullD (alongD b.m.ps x12) x12))) rfl rfl (fun _ hc => dv_un rfl rfl) ?_
   refine W_call (vs := [.agg #[fl ((alongD b.m.ps x12).x), fl ((alongD b.m.ps x12).y), fl ((alongD b.m.ps x12).z)], fl (fneg .f32 (pullD (alongD b.m.ps x12) x12))]) rfl rfl rfl rfl rfl rfl rfl (l01Scale_ok (alongD b.m.ps x12) (fneg .f32 (pullD (alongD b.m.ps x12) x12)) _) ?_
   rintro _ H ⟨v25, h26, rfl, hQ⟩
   have hM := hM.up hQ.keep
   refine ⟨hM.keep, ?_⟩
   refine W_call (vs := [va x24, va v25]) rfl rfl rfl rfl rfl rfl rfl (l01Add_ok x24 v25 _) ?_
   rintro _ H ⟨v27, rfl, rfl, hQ⟩
   have hM := hM.up hQ.keep
   refine ⟨hM.keep, ?_⟩
   refine wd (sp a1 (((x12.B).toNat) * 3)) rfl rfl (fun _ hc => dv_indexAddr (a := sv a1 b.m.pn b.m.pn) (b := iv x12.B) rfl rfl (ix_sls (n := b.m.pn) (i := ((x12.B).toNat)) ((hB _ hc).sls 0 rfl) hx24 rfl rfl (by omega) (by omega))) ?_
   have hS := hR _ _ hM
   refine D_storeS (k := 0) (i := ((x12.B).toNat)) (z' := (vadd x24 v25)) (off := 0) (yv := .agg #[fl ((vadd x24 v25).x), fl ((vadd x24 v25).y), fl ((vadd x24 v25).z)]) hS rfl rfl rfl rfl rfl (fun _ => rfl) rfl rfl rfl hx24 rfl rfl rfl rfl fun H hS => ?_
   have hx28 := set_get (z := (vadd x24 v25)) hx24
   refine bl_norm ?_
   refine th_norm ?_
   refine AWp_E rfl ?_
   refine ed (iv ((i + 1 : Nat) : Int)) rfl rfl (dv_bin rfl rfl (bi_add (by omega))) ?_
   refine ed (iv ((i + 1 : Nat) : Int)) rfl rfl (dv_move rfl) ?_
   refine E_nil ?_
   refine loop_next (I := I5) (b.sn - (i + 1)) (by rw [hm8]; omega) ?_
   rw [hI5]
   refine ⟨i + 1, (o.set ((x12.A).toNat) v21).set ((x12.B).toNat) (vadd x24 v25), rfl, (all_c rfl (all_c rfl (all_c rfl (all_c rfl (all_c rfl (all_c rfl (all_c rfl (all_c rfl (all_c rfl (all_c rfl (all_c rfl (all_c rfl (all_c rfl (all_c rfl (all_c rfl (all_c rfl (all_c rfl (all_c rfl (all_c rfl all_n))))))))))))))))))), (hS.pick [0] rfl), (by rw [List.length_set]; exact (by rw [List.length_set]; exact ho_n)), ?_, ?_⟩
   · omega
   · refine iter_to ho ?_
     simp only [force0, push, pushH, LB.d, LM.d, rxs, Msh.hinges, Int.toNat_natCast, gD s0 hx12, at3_of hx19, at3_of hx23, at3_of hx24, at3_of hx28, h22, h26]
  ·
   refine ed no rfl rfl (dv_bin rfl rfl (bi_lss_f hc11)) ?_
   refine E_nil ?_
   refine th_norm ?_
   refine AWp_seq ?_
   refine AWp_cond (t := false) rfl nofun (fun _ => ?_)
   refine AWp_exit (th_exit (th_exit (bl_exit (?_))))
   refine th_norm ?_
   refine AWp_seq ?_
   refine AWp_seq ?_
   refine AWp_E rfl ?_
   refine ed (pt b_p b_o) rfl rfl (dv_move rfl) ?_
   refine ed (pt b_p b_o) rfl rfl (dv_nilCheck rfl) ?_
   refine ed (pt b_p (b_o + 1)) rfl rfl (dv_fieldAddr rfl rfl) ?_
   refine ed (sv b.m.ta b.m.tn b.m.tc) rfl rfl (dv_load rfl (ld_pv (off := 1) (hbpv.keep hS.keep) rfl rfl rfl)) ?_
   refine ed (iv ((b.m.tn : Nat) : Int)) rfl rfl (dv_len rfl rfl rfl rfl rfl) ?_
   refine ed (iv 0) rfl rfl (dv_move rfl) ?_
   refine E_nil ?_
   refine th_norm ?_
   refine AWp_block ?_
   obtain ⟨I29, hI29⟩ : ∃ I : Nat → Env → AH → Prop, ∀ m_ e_ Hl, I m_ e_ Hl = (∃ (j : Nat) (o : List (V3)), m_ = b.m.tn - j ∧ AllE [(0, pt b_p b_o), (2, sv none 0 0), (3, pt b_p b_o), (4, sv a1 b.m.pn b.m.pn), (20, pt b_p b_o), (21, pt b_p b_o), (22, pt b_p b_o), (23, pt b_p b_o), (24, pt b_p b_o), (25, pt b_p b_o), (26, sv b.m.pa b.m.pn b.m.pc), (27, iv ((b.m.pn : Nat) : Int)), (28, sv a1 b.m.pn b.m.pn), (29, pt b_p b_o), (30, pt b_p b_o), (31, pt b_p (b_o + 2)), (32, sv b.sa b.sn b.sc), (33, iv ((b.sn : Nat) : Int)), (34, iv ((i : Nat) : Int)), (35, no), (85, pt b_p b_o), (86, pt b_p b_o), (87, pt b_p (b_o + 1)), (88, sv b.m.ta b.m.tn b.m.tc), (89, iv ((b.m.tn : Nat) : Int)), (90, iv ((j : Nat) : Int))] e_ ∧ SepL H0 [sl encV 41 3 a1 b.m.pn o] Hl ∧ o.length = b.m.pn ∧ (j ≤ b.m.tn) ∧ (o = (iter (force1 b.d) (iter (force0 b.d) (List.replicate b.m.ps.length v0) b.ss.length) j))) := ⟨_, fun _ _ _ => rfl⟩
   refine AWp_loop I29 (b.m.tn - (0)) ?_ ?_
   ·
    rw [hI29]
    refine ⟨0, o, rfl, (all_c rfl (all_c rfl (all_c rfl (all_c rfl (all_c rfl (all_c rfl (all_c rfl (all_c rfl (all_c rfl (all_c rfl (all_c rfl (all_c rfl (all_c rfl (all_c rfl (all_c rfl (all_c rfl (all_c rfl (all_c rfl (all_c rfl (all_c rfl (all_c rfl (all_c rfl (all_c rfl (all_c rfl (all_c rfl (all_c rfl all_n)))))))))))))))))))))))))), hS, ho_n, ?_, ?_⟩
    · omega
    · have hii : i = b.ss.length := by omega
      rw [ho, hii]; rfl
   ·
    intro m30 _ H hl31
    rw [hI29] at hl31
    obtain ⟨j, o, hm32, he33, hS, ho_n, hi, ho⟩ := hl31
    obtain ⟨e34, rfl⟩ := he33.ex
    refine AWp_seq ?_
    refine AWp_E rfl ?_
    rcases Decidable.em (((j : Nat) : Int) < ((b.m.tn : Nat) : Int)) with hc35 | hc35
    ·
     refine ed yes rfl rfl (dv_bin rfl rfl (bi_lss_t hc35)) ?_
     refine E_nil ?_
     refine th_norm ?_
     refine AWp_seq ?_
     refine AWp_cond (t := true) rfl (fun _ => ?_) nofun
     refine AWp_skip ?_
     refine th_norm ?_
     refine AWp_seq ?_
     refine AWp_block ?_
     refine AWp_seq ?_
     refine AWp_E rfl ?_
     refine ed (iv ((j : Nat) : Int)) rfl rfl (dv_move rfl) ?_
     refine ed (iv ((j : Nat) : Int)) rfl rfl (dv_assign rfl) ?_
     refine E_nil ?_
     refine th_norm ?_
     refine AWp_seq ?_
     refine AWp_E rfl ?_
     refine ed (pt b_p b_o) rfl rfl (dv_move rfl) ?_
     refine ed (pt b_p b_o) rfl rfl (dv_nilCheck rfl) ?_
     refine ed (pt b_p (b_o + 1)) rfl rfl (dv_fieldAddr rfl rfl) ?_
     refine ed (sv b.m.ta b.m.tn b.m.tc) rfl rfl (dv_load rfl (ld_pv (off := 1) (hbpv.keep hS.keep) rfl rfl rfl)) ?_
     refine ed (iv ((j : Nat) : Int)) rfl rfl (dv_move rfl) ?_
     obtain ⟨x36, hx36⟩ := get_el (xs := b.m.ts) (i := j) (by omega)
     have hv37 := hb_1_ts.el hx36
     have hv37l := hv37.2
     have htk := meshP_row hbm hx36
     have htl := htk.1
     refine ed (sp b.m.ta (j * 1)) rfl rfl (dv_indexAddr (a := sv b.m.ta b.m.tn b.m.tc) (b := iv ((j : Nat) : Int)) rfl rfl (ix_sls (n := b.m.tn) (i := j) (hb_1_ts.1.keep hS.keep) hx36 rfl rfl rfl (by omega))) ?_
     refine ed (sv x36.a x36.xs.length x36.c) rfl rfl (dv_load rfl (ld_sls (sz := 1) (off := 0) (hb_1_ts.1.keep hS.keep) hx36 (fun _ => rfl) rfl rfl rfl)) ?_
     refine ed (sv x36.a x36.xs.length x36.c) rfl rfl (dv_assign rfl) ?_
     refine E_nil ?_
     refine th_norm ?_
     refine AWp_seq ?_
     refine AWp_E rfl ?_
     refine ed (pt b_p b_o) rfl rfl (dv_move rfl) ?_
     refine ed (sv x36.a x36.xs.length x36.c) rfl rfl (dv_move rfl) ?_
     refine E_call (vs := [pt b_p b_o, sv x36.a x36.xs.length x36.c]) rfl rfl rfl rfl rfl rfl rfl (l03Normal_ok b_p b_o b.m x36.a x36.xs.length x36.c x36.xs _ (PV.sub (j := 0) (n := 2) (hbpv.keep hS.keep) rfl rfl) (hb.1.keep hS.keep) ⟨(hv37.1.keep hS.keep), rfl, hv37.2⟩ (by first | assumption | omega | (simp only [*]; assumption) | (simp_all; done))) ?_
     rintro _ H ⟨v38, rfl, rfl, hQ⟩
     have hS := hS.up hQ.keep
     refine S_box (l := [fl 0, fl 0, fl 0]) hS rfl rfl rfl rfl rfl fun b39 H hS => ?_
     refine S_store (i := 1) (yv := .agg #[fl ((normalD b.m.ps x36.xs).x), fl ((normalD b.m.ps x36.xs).y), fl ((normalD b.m.ps x36.xs).z)]) (l' := [fl ((normalD b.m.ps x36.xs).x), fl ((normalD b.m.ps x36.xs).y), fl ((normalD b.m.ps x36.xs).z)]) hS rfl rfl rfl rfl rfl rfl rfl rfl rfl rfl rfl rfl fun H hS => ?_
     refine E_nil ?_
     refine th_norm ?_
     refine AWp_seq ?_
     have hR := hS.pushes
     have hKb := hS.keep
     have hB := fun Hc (hc : Keep _ Hc) => hR [] Hc (.base hc)
     refine AWp_D0 rfl (by decide +kernel) fun hM => ?_
     refine wd (pt b_p b_o) rfl rfl (fun _ hc => dv_move rfl) ?_
     refine wd (pt b_p b_o) rfl rfl (fun _ hc => dv_nilCheck rfl) ?_
     refine wd (pt b_p (b_o + 3)) rfl rfl (fun _ hc => dv_fieldAddr rfl rfl) ?_
     refine wd (fl b.film) rfl rfl (fun _ hc => dv_load rfl (ld_pv (off := 3) (hbpv.keep (hKb.trans hc)) rfl rfl rfl)) ?_
     refine wd (fl (fop .mul .f32 1056964608 b.film)) rfl rfl (fun _ hc => dv_bin rfl rfl rfl) ?_
     refine wd (fl (fneg .f32 (fop .mul .f32 1056964608 b.film))) rfl rfl (fun _ hc => dv_un rfl rfl) ?_
     refine wd (.agg #[fl ((normalD b.m.ps x36.xs).x), fl ((normalD b.m.ps x36.xs).y), fl ((normalD b.m.ps x36.xs).z)]) rfl rfl (fun _ hc => dv_load rfl (ld_boxA (n := 3) ((hB _ hc).box 1 rfl) rfl rfl (Nat.le_of_ble_eq_true rfl) rfl)) ?_
     refine W_call (vs := [.agg #[fl ((normalD b.m.ps x36.xs).x), fl ((normalD b.m.ps x36.xs).y), fl ((normalD b.m.ps x36.xs).z)]]) rfl rfl rfl rfl rfl rfl rfl (l01Long_ok (normalD b.m.ps x36.xs) _) ?_
     rintro _ H ⟨v40, rfl, rfl, hQ⟩
     have hM := hM.up hQ.keep
     refine ⟨hM.keep, ?_⟩
     refine W_call (vs := [fl (fneg .f32 (fop .mul .f32 1056964608 b.film)), fl (vlong (normalD b.m.ps x36.xs))]) rfl rfl rfl rfl rfl rfl rfl (l03Gain_ok (fneg .f32 (fop .mul .f32 1056964608 b.film)) (vlong (normalD b.m.ps x36.xs)) _) ?_
     rintro _ H ⟨v41, h42, rfl, hQ⟩
     have hM := hM.up hQ.keep
     refine ⟨hM.keep, ?_⟩
     refine wd (fl v41) rfl rfl (fun _ hc => dv_assign rfl) ?_
     have hS := hR _ _ hM
     refine W_nil ?_
     refine th_norm ?_
     refine AWp_seq ?_
     refine AWp_E rfl ?_
     refine ed (iv 0) rfl rfl (dv_assign rfl) ?_
     refine E_nil ?_
     refine th_norm ?_
     refine AWp_block ?_
     obtain ⟨I43, hI43⟩ : ∃ I : Nat → Env → AH → Prop, ∀ m_ e_ Hl, I m_ e_ Hl = (∃ (k : Nat) (p : List (V3)), m_ = 3 - k ∧ AllE [(0, pt b_p b_o), (2, sv none 0 0), (3, pt b_p b_o), (4, sv a1 b.m.pn b.m.pn), (9, iv ((j : Nat) : Int)), (10, sv x36.a x36.xs.length x36.c), (11, pt b39 0), (12, fl v41), (13, iv ((k : Nat) : Int)), (20, pt b_p b_o), (21, pt b_p b_o), (22, pt b_p b_o), (23, pt b_p b_o), (24, pt b_p b_o), (25, pt b_p b_o), (26, sv b.m.pa b.m.pn b.m.pc), (27, iv ((b.m.pn : Nat) : Int)), (28, sv a1 b.m.pn b.m.pn), (29, pt b_p b_o), (30, pt b_p b_o), (31, pt b_p (b_o + 2)), (32, sv b.sa b.sn b.sc), (33, iv ((b.sn : Nat) : Int)), (34, iv ((i : Nat) : Int)), (35, no), (85, pt b_p b_o), (86, pt b_p b_o), (87, pt b_p (b_o + 1)), (88, sv b.m.ta b.m.tn b.m.tc), (89, iv ((b.m.tn : Nat) : Int)), (90, iv ((j : Nat) : Int)), (91, yes), (92, iv ((j : Nat) : Int)), (93, pt b_p b_o), (94, pt b_p b_o), (95, pt b_p (b_o + 1)), (96, sv b.m.ta b.m.tn b.m.tc), (97, iv ((j : Nat) : Int)), (98, sp b.m.ta (j * 1)), (99, sv x36.a x36.xs.length x36.c), (100, pt b_p b_o), (101, sv x36.a x36.xs.length x36.c), (102, .agg #[fl ((normalD b.m.ps x36.xs).x), fl ((normalD b.m.ps x36.xs).y), fl ((normalD b.m.ps x36.xs).z)]), (103, pt b_p b_o), (104, pt b_p b_o), (105, pt b_p (b_o + 3)), (106, fl b.film), (107, fl (fop .mul .f32 1056964608 b.film)), (108, fl (fneg .f32 (fop .mul .f32 1056964608 b.film))), (109, .agg #[fl ((normalD b.m.ps x36.xs).x), fl ((normalD b.m.ps x36.xs).y), fl ((normalD b.m.ps x36.xs).z)]), (110, fl (vlong (normalD b.m.ps x36.xs))), (111, fl v41)] e_ ∧ SepL H0 [sl encV 41 3 a1 b.m.pn p, box b39 [fl ((normalD b.m.ps x36.xs).x), fl ((normalD b.m.ps x36.xs).y), fl ((normalD b.m.ps x36.xs).z)] 41] Hl ∧ p.length = b.m.pn ∧ (k ≤ 3) ∧ (p = iter (side b.m.ps x36.xs (normalD b.m.ps x36.xs) (gain (fneg .f32 (fop .mul .f32 1056964608 b.film)) (vlong (normalD b.m.ps x36.xs)))) o k)) := ⟨_, fun _ _ _ => rfl⟩
     refine AWp_loop I43 (3 - (0)) ?_ ?_
     ·
      rw [hI43]
      refine ⟨0, o, rfl, (all_c rfl (all_c rfl (all_c rfl (all_c rfl (all_c rfl (all_c rfl (all_c rfl (all_c rfl (all_c rfl (all_c rfl (all_c rfl (all_c rfl (all_c rfl (all_c rfl (all_c rfl (all_c rfl (all_c rfl (all_c rfl (all_c rfl (all_c rfl (all_c rfl (all_c rfl (all_c rfl (all_c rfl (all_c rfl (all_c rfl (all_c rfl (all_c rfl (all_c rfl (all_c rfl (all_c rfl (all_c rfl (all_c rfl (all_c rfl (all_c rfl (all_c rfl (all_c rfl (all_c rfl (all_c rfl (all_c rfl (all_c rfl (all_c rfl (all_c rfl (all_c rfl (all_c rfl (all_c rfl (all_c rfl (all_c rfl (all_c rfl (all_c rfl (all_c rfl (all_c rfl all_n)))))))))))))))))))))))))))))))))))))))))))))))))))), hS, ho_n, ?_, ?_⟩
      · omega
      · rfl
     ·
      intro m44 _ H hl45
      rw [hI43] at hl45
      obtain ⟨k, p, hm46, he47, hS, hp_n, hk, hp⟩ := hl45
      obtain ⟨e48, rfl⟩ := he47.ex
      refine AWp_seq ?_
      refine AWp_seq ?_
      refine AWp_E rfl ?_
      refine ed (iv ((k : Nat) : Int)) rfl rfl (dv_move rfl) ?_
      rcases Decidable.em (((k : Nat) : Int) < 3) with hc49 | hc49
      ·
       refine ed yes rfl rfl (dv_bin rfl rfl (bi_lss_t hc49)) ?_
       refine E_nil ?_
       refine th_norm ?_
       refine AWp_cond (t := true) rfl (fun _ => ?_) nofun
       refine AWp_skip ?_
       refine th_norm ?_
       refine AWp_seq ?_
       refine AWp_block ?_
       refine AWp_seq ?_
       have hR := hS.pushes
       have hKb := hS.keep
       have hB := fun Hc (hc : Keep _ Hc) => hR [] Hc (.base hc)
       refine AWp_D0 rfl (by decide +kernel) fun hM => ?_
       refine wd (pt b_p b_o) rfl rfl (fun _ hc => dv_move rfl) ?_
       refine wd (pt b_p b_o) rfl rfl (fun _ hc => dv_nilCheck rfl) ?_
       refine wd (pt b_p b_o) rfl rfl (fun _ hc => dv_fieldAddr rfl rfl) ?_
       refine wd (sv b.m.pa b.m.pn b.m.pc) rfl rfl (fun _ hc => dv_load rfl (ld_pv (off := 0) (hbpv.keep (hKb.trans hc)) rfl rfl rfl)) ?_
       refine wd (sv x36.a x36.xs.length x36.c) rfl rfl (fun _ hc => dv_move rfl) ?_
       refine wd (iv ((k : Nat) : Int)) rfl rfl (fun _ hc => dv_move rfl) ?_
       refine wd (iv ((k + 2 : Nat) : Int)) rfl rfl (fun _ hc => dv_bin rfl rfl (bi_add (by omega))) ?_
       refine wd (iv (((k + 2) % 3 : Nat) : Int)) rfl rfl (fun _ hc => dv_bin rfl rfl (bi_rem (by decide))) ?_
       obtain ⟨x50, hx50⟩ := get_el (xs := x36.xs) (i := (k + 2) % 3) (by omega)
       have ht51 := triP_get htk hx50
       unfold inP at ht51
       refine wd (sp x36.a (((k + 2) % 3) * 1)) rfl rfl (fun _ hc => dv_indexAddr (a := sv x36.a x36.xs.length x36.c) (b := iv (((k + 2) % 3 : Nat) : Int)) rfl rfl (ix_sls (n := x36.xs.length) (i := ((k + 2) % 3)) (hv37.1.keep (hKb.trans hc)) hx50 rfl rfl rfl (get_lt hx50))) ?_
       refine wd (iv x50) rfl rfl (fun _ hc => dv_load rfl (ld_sls (sz := 1) (off := 0) (hv37.1.keep (hKb.trans hc)) hx50 (fun _ => rfl) rfl rfl rfl)) ?_
       obtain ⟨x52, hx52⟩ := get_el (xs := b.m.ps) (i := (x50).toNat) (by omega)
       refine wd (sp b.m.pa (((x50).toNat) * 3)) rfl rfl (fun _ hc => dv_indexAddr (a := sv b.m.pa b.m.pn b.m.pc) (b := iv x50) rfl rfl (ix_sls (n := b.m.pn) (i := ((x50).toNat)) (hb_1_ps.keep (hKb.trans hc)) hx52 rfl rfl (by omega) (by omega))) ?_
       refine wd (va x52) rfl rfl (fun _ hc => dv_load rfl (ld_slsA (sz := 3) (m := 3) (ys := [fl x52.x, fl x52.y, fl x52.z]) (off := 0) (hb_1_ps.keep (hKb.trans hc)) hx52 (fun _ => rfl) rfl rfl (Nat.le_of_ble_eq_true rfl) rfl)) ?_
       refine wd (pt b_p b_o) rfl rfl (fun _ hc => dv_move rfl) ?_
       refine wd (pt b_p b_o) rfl rfl (fun _ hc => dv_nilCheck rfl) ?_
       refine wd (pt b_p b_o) rfl rfl (fun _ hc => dv_fieldAddr rfl rfl) ?_
       refine wd (sv b.m.pa b.m.pn b.m.pc) rfl rfl (fun _ hc => dv_load rfl (ld_pv (off := 0) (hbpv.keep (hKb.trans hc)) rfl rfl rfl)) ?_
       refine wd (sv x36.a x36.xs.length x36.c) rfl rfl (fun _ hc => dv_move rfl) ?_
       refine wd (iv ((k : Nat) : Int)) rfl rfl (fun _ hc => dv_move rfl) ?_
       refine wd (iv ((k + 1 : Nat) : Int)) rfl rfl (fun _ hc => dv_bin rfl rfl (bi_add (by omega))) ?_
       refine wd (iv (((k + 1) % 3 : Nat) : Int)) rfl rfl (fun _ hc => dv_bin rfl rfl (bi_rem (by decide))) ?_
       obtain ⟨x53, hx53⟩ := get_el (xs := x36.xs) (i := (k + 1) % 3) (by omega)
       have ht54 := triP_get htk hx53
       unfold inP at ht54
       refine wd (sp x36.a (((k + 1) % 3) * 1)) rfl rfl (fun _ hc => dv_indexAddr (a := sv x36.a x36.xs.length x36.c) (b := iv (((k + 1) % 3 : Nat) : Int)) rfl rfl (ix_sls (n := x36.xs.length) (i := ((k + 1) % 3)) (hv37.1.keep (hKb.trans hc)) hx53 rfl rfl rfl (get_lt hx53))) ?_
       refine wd (iv x53) rfl rfl (fun _ hc => dv_load rfl (ld_sls (sz := 1) (off := 0) (hv37.1.keep (hKb.trans hc)) hx53 (fun _ => rfl) rfl rfl rfl)) ?_
       obtain ⟨x55, hx55⟩ := get_el (xs := b.m.ps) (i := (x53).toNat) (by omega)
       refine wd (sp b.m.pa (((x53).toNat) * 3)) rfl rfl (fun _ hc => dv_indexAddr (a := sv b.m.pa b.m.pn b.m.pc) (b := iv x53) rfl rfl (ix_sls (n := b.m.pn) (i := ((x53).toNat)) (hb_1_ps.keep (hKb.trans hc)) hx55 rfl rfl (by omega) (by omega))) ?_
       refine wd (va x55) rfl rfl (fun _ hc => dv_load rfl (ld_slsA (sz := 3) (m := 3) (ys := [fl x55.x, fl x55.y, fl x55.z]) (off := 0) (hb_1_ps.keep (hKb.trans hc)) hx55 (fun _ => rfl) rfl rfl (Nat.le_of_ble_eq_true rfl) rfl)) ?_
       refine W_call (vs := [va x52, va x55]) rfl rfl rfl rfl rfl rfl rfl (l01Less_ok x52 x55 _) ?_
       rintro _ H ⟨v56, rfl, rfl, hQ⟩
       have hM := hM.up hQ.keep
       refine ⟨hM.keep, ?_⟩
       refine D_box (l := [fl 0, fl 0, fl 0]) hM rfl rfl rfl rfl rfl fun b57 H hM => ?_
       have hS := hR _ _ hM
       refine D_store (i := 2) (yv := .agg #[fl ((vsub x52 x55).x), fl ((vsub x52 x55).y), fl ((vsub x52 x55).z)]) (l' := [fl ((vsub x52 x55).x), fl ((vsub x52 x55).y), fl ((vsub x52 x55).z)]) hS rfl rfl rfl rfl rfl rfl rfl rfl rfl rfl rfl rfl rfl fun H hS => ?_
       refine th_norm ?_
       have hR := hS.pushes
       have hKb := hS.keep
       have hB := fun Hc (hc : Keep _ Hc) => hR [] Hc (.base hc)
       refine AWp_D0 rfl (by decide +kernel) fun hM => ?_
       refine wd (sv a1 b.m.pn b.m.pn) rfl rfl (fun _ hc => dv_move rfl) ?_
       refine wd (sv x36.a x36.xs.length x36.c) rfl rfl (fun _ hc => dv_move rfl) ?_
       refine wd (iv ((k : Nat) : Int)) rfl rfl (fun _ hc => dv_move rfl) ?_
       obtain ⟨x58, hx58⟩ := get_el (xs := x36.xs) (i := k) (by omega)
       have ht59 := triP_get htk hx58
       unfold inP at ht59
       refine wd (sp x36.a (k * 1)) rfl rfl (fun _ hc => dv_indexAddr (a := sv x36.a x36.xs.length x36.c) (b := iv ((k : Nat) : Int)) rfl rfl (ix_sls (n := x36.xs.length) (i := k) (hv37.1.keep (hKb.trans hc)) hx58 rfl rfl rfl (get_lt hx58))) ?_
       refine wd (iv x58) rfl rfl (fun _ hc => dv_load rfl (ld_sls (sz := 1) (off := 0) (hv37.1.keep (hKb.trans hc)) hx58 (fun _ => rfl) rfl rfl rfl)) ?_
       refine wd (sv a1 b.m.pn b.m.pn) rfl rfl (fun _ hc => dv_move rfl) ?_
       refine wd (sv x36.a x36.xs.length x36.c) rfl rfl (fun _ hc => dv_move rfl) ?_
       refine wd (iv ((k : Nat) : Int)) rfl rfl (fun _ hc => dv_move rfl) ?_
       refine wd (sp x36.a (k * 1)) rfl rfl (fun _ hc => dv_indexAddr (a := sv x36.a x36.xs.length x36.c) (b := iv ((k : Nat) : Int)) rfl rfl (ix_sls (n := x36.xs.length) (i := k) (hv37.1.keep (hKb.trans hc)) hx58 rfl rfl rfl (get_lt hx58))) ?_
       refine wd (iv x58) rfl rfl (fun _ hc => dv_load rfl (ld_sls (sz := 1) (off := 0) (hv37.1.keep (hKb.trans hc)) hx58 (fun _ => rfl) rfl rfl rfl)) ?_
       obtain ⟨x60, hx60⟩ := get_el (xs := p) (i := (x58).toNat) (by omega)
       refine wd (sp a1 (((x58).toNat) * 3)) rfl rfl (fun _ hc => dv_indexAddr (a := sv a1 b.m.pn b.m.pn) (b := iv x58) rfl rfl (ix_sls (n := b.m.pn) (i := ((x58).toNat)) ((hB _ hc).sls 0 rfl) hx60 rfl rfl (by omega) (by omega))) ?_
       refine wd (va x60) rfl rfl (fun _ hc => dv_load rfl (ld_slsA (sz := 3) (m := 3) (ys := [fl x60.x, fl x60.y, fl x60.z]) (off := 0) ((hB _ hc).sls 0 rfl) hx60 (fun _ => rfl) rfl rfl (Nat.le_of_ble_eq_true rfl) rfl)) ?_
       refine wd (.agg #[fl ((normalD b.m.ps x36.xs).x), fl ((normalD b.m.ps x36.xs).y), fl ((normalD b.m.ps x36.xs).z)]) rfl rfl (fun _ hc => dv_load rfl (ld_boxA (n := 3) ((hB _ hc).box 1 rfl) rfl rfl (Nat.le_of_ble_eq_true rfl) rfl)) ?_
       refine wd (.agg #[fl ((vsub x52 x55).x), fl ((vsub x52 x55).y), fl ((vsub x52 x55).z)]) rfl rfl (fun _ hc => dv_load rfl (ld_boxA (n := 3) ((hB _ hc).box 2 rfl) rfl rfl (Nat.le_of_ble_eq_true rfl) rfl)) ?_
       refine W_call (vs := [.agg #[fl ((normalD b.m.ps x36.xs).x), fl ((normalD b.m.ps x36.xs).y), fl ((normalD b.m.ps x36.xs).z)], .agg #[fl ((vsub x52 x55).x), fl ((vsub x52 x55).y), fl ((vsub x52 x55).z)]]) rfl rfl rfl rfl rfl rfl rfl (l01Cross_ok (normalD b.m.ps x36.xs) (vsub x52 x55) _) ?_
       rintro _ H ⟨v61, rfl, rfl, hQ⟩
       have hM := hM.up hQ.keep
       refine ⟨hM.keep, ?_⟩
       refine wd (fl v41) rfl rfl (fun _ hc => dv_move rfl) ?_
       refine W_call (vs := [.agg #[fl ((vcross (normalD b.m.ps x36.xs) (vsub x52 x55)).x), fl ((vcross (normalD b.m.ps x36.xs) (vsub x52 x55)).y), fl ((vcross (normalD b.m.ps x36.xs) (vsub x52 x55)).z)], fl v41]) rfl rfl rfl rfl rfl rfl rfl (l01Scale_ok (vcross (normalD b.m.ps x36.xs) (vsub x52 x55)) v41 _) ?_
       rintro _ H ⟨v62, rfl, rfl, hQ⟩
       have hM := hM.up hQ.keep
       refine ⟨hM.keep, ?_⟩
       refine W_call (vs := [va x60, .agg #[fl ((vscale (vcross (normalD b.m.ps x36.xs) (vsub x52 x55)) v41).x), fl ((vscale (vcross (normalD b.m.ps x36.xs) (vsub x52 x55)) v41).y), fl ((vscale (vcross (normalD b.m.ps x36.xs) (vsub x52 x55)) v41).z)]]) rfl rfl rfl rfl rfl rfl rfl (l01Add_ok x60 (vscale (vcross (normalD b.m.ps x36.xs) (vsub x52 x55)) v41) _) ?_
       rintro _ H ⟨v63, h64, rfl, hQ⟩
       have hM := hM.up hQ.keep
       refine ⟨hM.keep, ?_⟩
       refine wd (sp a1 (((x58).toNat) * 3)) rfl rfl (fun _ hc => dv_indexAddr (a := sv a1 b.m.pn b.m.pn) (b := iv x58) rfl rfl (ix_sls (n := b.m.pn) (i := ((x58).toNat)) ((hB _ hc).sls 0 rfl) hx60 rfl rfl (by omega) (by omega))) ?_
       have hS := hR _ _ hM
       refine D_storeS (k := 0) (i := ((x58).toNat)) (z' := v63) (off := 0) (yv := va v63) hS rfl rfl rfl rfl rfl (fun _ => rfl) rfl rfl rfl hx60 rfl rfl rfl rfl fun H hS => ?_
       have hx65 := set_get (z := v63) hx60
       refine bl_norm ?_
       refine th_norm ?_
       refine AWp_E rfl ?_
       refine ed (iv ((k : Nat) : Int)) rfl rfl (dv_move rfl) ?_
       refine ed (iv ((k + 1 : Nat) : Int)) rfl rfl (dv_bin rfl rfl (bi_add (by omega))) ?_
       refine ed (iv ((k + 1 : Nat) : Int)) rfl rfl (dv_assign rfl) ?_
       refine E_nil ?_
       refine loop_next (I := I43) (3 - (k + 1)) (by rw [hm46]; omega) ?_
       rw [hI43]
       refine ⟨k + 1, p.set ((x58).toNat) v63, rfl, (all_c rfl (all_c rfl (all_c rfl (all_c rfl (all_c rfl (all_c rfl (all_c rfl (all_c rfl (all_c rfl (all_c rfl (all_c rfl (all_c rfl (all_c rfl (all_c rfl (all_c rfl (all_c rfl (all_c rfl (all_c rfl (all_c rfl (all_c rfl (all_c rfl (all_c rfl (all_c rfl (all_c rfl (all_c rfl (all_c rfl (all_c rfl (all_c rfl (all_c rfl (all_c rfl (all_c rfl (all_c rfl (all_c rfl (all_c rfl (all_c rfl (all_c rfl (all_c rfl (all_c rfl (all_c rfl (all_c rfl (all_c rfl (all_c rfl (all_c rfl (all_c rfl (all_c rfl (all_c rfl (all_c rfl (all_c rfl (all_c rfl (all_c rfl (all_c rfl (all_c rfl all_n)))))))))))))))))))))))))))))))))))))))))))))))))))), (hS.pick [0, 1] rfl), (by rw [List.length_set]; exact hp_n), ?_, ?_⟩
       · omega
       · refine iter_to hp ?_
         simp only [side, push, LB.d, LM.d, rxs, Msh.hinges, Int.toNat_natCast, gD [] (map_get (f := Row.xs) hx36), gD 0 hx50, at3_of hx52, gD 0 hx53, at3_of hx55, gD 0 hx58, at3_of hx60, at3_of hx65, h42, h64]
      ·
       refine ed no rfl rfl (dv_bin rfl rfl (bi_lss_f hc49)) ?_
       refine E_nil ?_
       refine th_norm ?_
       refine AWp_cond (t := false) rfl nofun (fun _ => ?_)
       refine AWp_exit (th_exit (th_exit (bl_exit (?_))))
       refine bl_norm ?_
       refine th_norm ?_
       refine AWp_E rfl ?_
       refine ed (iv ((j + 1 : Nat) : Int)) rfl rfl (dv_bin rfl rfl (bi_add (by omega))) ?_
       refine ed (iv ((j + 1 : Nat) : Int)) rfl rfl (dv_move rfl) ?_
       refine E_nil ?_
       refine loop_next (I := I29) (b.m.tn - (j + 1)) (by rw [hm32]; omega) ?_
       rw [hI29]
       refine ⟨j + 1, p, rfl, (all_c rfl (all_c rfl (all_c rfl (all_c rfl (all_c rfl (all_c rfl (all_c rfl (all_c rfl (all_c rfl (all_c rfl (all_c rfl (all_c rfl (all_c rfl (all_c rfl (all_c rfl (all_c rfl (all_c rfl (all_c rfl (all_c rfl (all_c rfl (all_c rfl (all_c rfl (all_c rfl (all_c rfl (all_c rfl (all_c rfl all_n)))))))))))))))))))))))))), (hS.pick [0] rfl), hp_n, ?_, ?_⟩
       · omega
       · have hk3 : k = 3 := by omega
         refine iter_to ho ?_
         rw [hp, hk3]
         simp only [force1, LB.d, LM.d, rxs, Msh.hinges, Int.toNat_natCast, gD [] (map_get (f := Row.xs) hx36), h42]
    ·
     refine ed no rfl rfl (dv_bin rfl rfl (bi_lss_f hc35)) ?_
     refine E_nil ?_
     refine th_norm ?_
     refine AWp_seq ?_
     refine AWp_cond (t := false) rfl nofun (fun _ => ?_)
     refine AWp_exit (th_exit (th_exit (bl_exit (?_))))
     refine th_norm ?_
     refine AWp_seq ?_
     refine AWp_E rfl ?_
     refine ed (pt b_p b_o) rfl rfl (dv_move rfl) ?_
     refine E_call (vs := [pt b_p b_o]) rfl rfl rfl rfl rfl rfl rfl (l03Hinges_ok b_p b_o b.m _ (PV.sub (j := 0) (n := 2) (hbpv.keep hS.keep) rfl rfl) (hb.1.keep hS.keep) (by first | assumption | omega | (simp only [*]; assumption) | (simp_all; done))) ?_
     rintro _ H ⟨x66, x67, x68, x69, h70, rfl, h71, rfl, hQ⟩
     have hS := hS.push hQ
     refine ed (sv x66 x69.length x68) rfl rfl (dv_assign rfl) ?_
     refine E_nil ?_
     refine th_norm ?_
     refine AWp_seq ?_
     refine AWp_seq ?_
     refine AWp_E rfl ?_
     refine ed (sv x66 x69.length x68) rfl rfl (dv_move rfl) ?_
     refine ed (iv ((x69.length : Nat) : Int)) rfl rfl (dv_len rfl rfl rfl rfl rfl) ?_
     refine ed (iv 0) rfl rfl (dv_move rfl) ?_
     refine E_nil ?_
     refine th_norm ?_
     refine AWp_block ?_
     have hqh : x69.length = (hingesD b.m.ps.length (rxs b.m.ts)).length := by simpa [rxs] using congrArg List.length h70
     obtain ⟨I72, hI72⟩ : ∃ I : Nat → Env → AH → Prop, ∀ m_ e_ Hl, I m_ e_ Hl = (∃ (l : Nat) (o : List (V3)), m_ = x69.length - l ∧ AllE [(0, pt b_p b_o), (2, sv none 0 0), (3, pt b_p b_o), (4, sv a1 b.m.pn b.m.pn), (15, sv x66 x69.length x68), (20, pt b_p b_o), (21, pt b_p b_o), (22, pt b_p b_o), (23, pt b_p b_o), (24, pt b_p b_o), (25, pt b_p b_o), (26, sv b.m.pa b.m.pn b.m.pc), (27, iv ((b.m.pn : Nat) : Int)), (28, sv a1 b.m.pn b.m.pn), (29, pt b_p b_o), (30, pt b_p b_o), (31, pt b_p (b_o + 2)), (32, sv b.sa b.sn b.sc), (33, iv ((b.sn : Nat) : Int)), (34, iv ((i : Nat) : Int)), (35, no), (85, pt b_p b_o), (86, pt b_p b_o), (87, pt b_p (b_o + 1)), (88, sv b.m.ta b.m.tn b.m.tc), (89, iv ((b.m.tn : Nat) : Int)), (90, iv ((j : Nat) : Int)), (91, no), (161, pt b_p b_o), (162, sv x66 x69.length x68), (163, sv x66 x69.length x68), (164, iv ((x69.length : Nat) : Int)), (165, iv ((l : Nat) : Int))] e_ ∧ SepL H0 [sl encV 41 3 a1 b.m.pn o, sl encR 53 1 x66 x68 x69, rowsE 2 x69] Hl ∧ o.length = b.m.pn ∧ (l ≤ x69.length) ∧ (o = (iter (force2 b.d) (iter (force1 b.d) (iter (force0 b.d) (List.replicate b.m.ps.length v0) b.ss.length) (rxs b.m.ts).length) l))) := ⟨_, fun _ _ _ => rfl⟩
     refine AWp_loop I72 (x69.length - (0)) ?_ ?_
     ·
      rw [hI72]
      refine ⟨0, o, rfl, (all_c rfl (all_c rfl (all_c rfl (all_c rfl (all_c rfl (all_c rfl (all_c rfl (all_c rfl (all_c rfl (all_c rfl (all_c rfl (all_c rfl (all_c rfl (all_c rfl (all_c rfl (all_c rfl (all_c rfl (all_c rfl (all_c rfl (all_c rfl (all_c rfl (all_c rfl (all_c rfl (all_c rfl (all_c rfl (all_c rfl (all_c rfl (all_c rfl (all_c rfl (all_c rfl (all_c rfl (all_c rfl (all_c rfl all_n))))))))))))))))))))))))))))))))), hS, ho_n, ?_, ?_⟩
      · omega
      · have hii : j = (rxs b.m.ts).length := by rw [rxs, List.length_map]; omega
        rw [ho, hii]; rfl
     ·
      intro m73 _ H hl74
      rw [hI72] at hl74
      obtain ⟨l, o, hm75, he76, hS, ho_n, hi, ho⟩ := hl74
      obtain ⟨e77, rfl⟩ := he76.ex
      refine AWp_seq ?_
      refine AWp_E rfl ?_
      rcases Decidable.em (((l : Nat) : Int) < ((x69.length : Nat) : Int)) with hc78 | hc78
      ·
       refine ed yes rfl rfl (dv_bin rfl rfl (bi_lss_t hc78)) ?_
       refine E_nil ?_
       refine th_norm ?_
       refine AWp_seq ?_
       refine AWp_cond (t := true) rfl (fun _ => ?_) nofun
       refine AWp_skip ?_
       refine th_norm ?_
       refine AWp_seq ?_
       refine AWp_block ?_
       refine AWp_seq ?_
       refine AWp_E rfl ?_
       refine ed (iv ((l : Nat) : Int)) rfl rfl (dv_move rfl) ?_
       refine ed (iv ((l : Nat) : Int)) rfl rfl (dv_assign rfl) ?_
       refine E_nil ?_
       refine th_norm ?_
       refine AWp_seq ?_
       refine AWp_E rfl ?_
       refine ed (sv x66 x69.length x68) rfl rfl (dv_move rfl) ?_
       refine ed (iv ((l : Nat) : Int)) rfl rfl (dv_move rfl) ?_
       obtain ⟨x79, hx79⟩ := get_el (xs := x69) (i := l) (by omega)
       have hhk := hinges_ok hbm (rows_get h70 hx79)
       have hhk4 := hhk.1
       refine ed (sp x66 (l * 1)) rfl rfl (dv_indexAddr (a := sv x66 x69.length x68) (b := iv ((l : Nat) : Int)) rfl rfl (ix_sls (n := x69.length) (i := l) (hS.sls 1 rfl) hx79 rfl rfl rfl (get_lt hx79))) ?_
       refine ed (sv x79.a x79.xs.length x79.c) rfl rfl (dv_load rfl (ld_sls (sz := 1) (off := 0) (hS.sls 1 rfl) hx79 (fun _ => rfl) rfl rfl rfl)) ?_
       refine ed (sv x79.a x79.xs.length x79.c) rfl rfl (dv_assign rfl) ?_
       refine E_nil ?_
       refine th_norm ?_
       refine AWp_seq ?_
       refine AWp_E rfl ?_
       refine ed (pt b_p b_o) rfl rfl (dv_move rfl) ?_
       refine ed (sv x79.a x79.xs.length x79.c) rfl rfl (dv_move rfl) ?_
       refine E_call (vs := [pt b_p b_o, sv x79.a x79.xs.length x79.c]) rfl rfl rfl rfl rfl rfl rfl (l03Bent_ok b_p b_o b.m x79.a x79.xs.length x79.c x79.xs _ (PV.sub (j := 0) (n := 2) (hbpv.keep hS.keep) rfl rfl) (hb.1.keep hS.keep) ⟨(rowsE_sls (hS.at (i := 2) rfl) hx79), rfl, h71 _ (List.mem_of_getElem? hx79)⟩ (by first | assumption | omega | (simp only [*]; assumption) | (simp_all; done))) ?_
       rintro _ H ⟨v80, rfl, rfl, hQ⟩
       have hS := hS.up hQ.keep
       refine S_box (l := [fl 0, fl 0, fl 0]) hS rfl rfl rfl rfl rfl fun b81 H hS => ?_
       refine S_store (i := 3) (yv := .agg #[fl ((bentD b.m.ps x79.xs).x), fl ((bentD b.m.ps x79.xs).y), fl ((bentD b.m.ps x79.xs).z)]) (l' := [fl ((bentD b.m.ps x79.xs).x), fl ((bentD b.m.ps x79.xs).y), fl ((bentD b.m.ps x79.xs).z)]) hS rfl rfl rfl rfl rfl rfl rfl rfl rfl rfl rfl rfl fun H hS => ?_
       refine E_nil ?_
       refine th_norm ?_
       refine AWp_seq ?_
       have hR := hS.pushes
       have hKb := hS.keep
       have hB := fun Hc (hc : Keep _ Hc) => hR [] Hc (.base hc)
       refine AWp_D0 rfl (by decide +kernel) fun hM => ?_
       refine wd (sv a1 b.m.pn b.m.pn) rfl rfl (fun _ hc => dv_move rfl) ?_
       refine wd (sv x79.a x79.xs.length x79.c) rfl rfl (fun _ hc => dv_move rfl) ?_
       obtain ⟨x82, hx82⟩ := get_el (xs := x79.xs) (i := 0) (by omega)
       have ht83 := hinP_get hhk hx82
       refine wd (sp x79.a (0 * 1)) rfl rfl (fun _ hc => dv_indexAddr (a := sv x79.a x79.xs.length x79.c) (b := iv 0) rfl rfl (ix_sls (n := x79.xs.length) (i := 0) (rowsE_sls ((hB _ hc).at (i := 2) rfl) hx79) hx82 rfl rfl rfl (get_lt hx82))) ?_
       refine wd (iv x82) rfl rfl (fun _ hc => dv_load rfl (ld_sls (sz := 1) (off := 0) (rowsE_sls ((hB _ hc).at (i := 2) rfl) hx79) hx82 (fun _ => rfl) rfl rfl rfl)) ?_
       refine wd (sv a1 b.m.pn b.m.pn) rfl rfl (fun _ hc => dv_move rfl) ?_
       refine wd (sv x79.a x79.xs.length x79.c) rfl rfl (fun _ hc => dv_move rfl) ?_
       refine wd (sp x79.a (0 * 1)) rfl rfl (fun _ hc => dv_indexAddr (a := sv x79.a x79.xs.length x79.c) (b := iv 0) rfl rfl (ix_sls (n := x79.xs.length) (i := 0) (rowsE_sls ((hB _ hc).at (i := 2) rfl) hx79) hx82 rfl rfl rfl (get_lt hx82))) ?_
       refine wd (iv x82) rfl rfl (fun _ hc => dv_load rfl (ld_sls (sz := 1) (off := 0) (rowsE_sls ((hB _ hc).at (i := 2) rfl) hx79) hx82 (fun _ => rfl) rfl rfl rfl)) ?_
       obtain ⟨x84, hx84⟩ := get_el (xs := o) (i := (x82).toNat) (by omega)
       refine wd (sp a1 (((x82).toNat) * 3)) rfl rfl (fun _ hc => dv_indexAddr (a := sv a1 b.m.pn b.m.pn) (b := iv x82) rfl rfl (ix_sls (n := b.m.pn) (i := ((x82).toNat)) ((hB _ hc).sls 0 rfl) hx84 rfl rfl (by omega) (by omega))) ?_
       refine wd (va x84) rfl rfl (fun _ hc => dv_load rfl (ld_slsA (sz := 3) (m := 3) (ys := [fl x84.x, fl x84.y, fl x84.z]) (off := 0) ((hB _ hc).sls 0 rfl) hx84 (fun _ => rfl) rfl rfl (Nat.le_of_ble_eq_true rfl) rfl)) ?_
       refine wd (.agg #[fl ((bentD b.m.ps x79.xs).x), fl ((bentD b.m.ps x79.xs).y), fl ((bentD b.m.ps x79.xs).z)]) rfl rfl (fun _ hc => dv_load rfl (ld_boxA (n := 3) ((hB _ hc).box 3 rfl) rfl rfl (Nat.le_of_ble_eq_true rfl) rfl)) ?_
       refine wd (pt b_p b_o) rfl rfl (fun _ hc => dv_move rfl) ?_
       refine wd (pt b_p b_o) rfl rfl (fun _ hc => dv_nilCheck rfl) ?_
       refine wd (pt b_p (b_o + 4)) rfl rfl (fun _ hc => dv_fieldAddr rfl rfl) ?_
       refine wd (fl b.bend) rfl rfl (fun _ hc => dv_load rfl (ld_pv (off := 4) (hbpv.keep (hKb.trans hc)) rfl rfl rfl)) ?_
       refine W_call (vs := [.agg #[fl ((bentD b.m.ps x79.xs).x), fl ((bentD b.m.ps x79.xs).y), fl ((bentD b.m.ps x79.xs).z)], fl b.bend]) rfl rfl rfl rfl rfl rfl rfl (l01Scale_ok (bentD b.m.ps x79.xs) b.bend _) ?_
       rintro _ H ⟨v85, rfl, rfl, hQ⟩
       have hM := hM.up hQ.keep
       refine ⟨hM.keep, ?_⟩
       refine W_call (vs := [va x84, .agg #[fl ((vscale (bentD b.m.ps x79.xs) b.bend).x), fl ((vscale (bentD b.m.ps x79.xs) b.bend).y), fl ((vscale (bentD b.m.ps x79.xs) b.bend).z)]]) rfl rfl rfl rfl rfl rfl rfl (l01Add_ok x84 (vscale (bentD b.m.ps x79.xs) b.bend) _) ?_
       rintro _ H ⟨v86, rfl, rfl, hQ⟩
       have hM := hM.up hQ.keep
       refine ⟨hM.keep, ?_⟩
       refine wd (sp a1 (((x82).toNat) * 3)) rfl rfl (fun _ hc => dv_indexAddr (a := sv a1 b.m.pn b.m.pn) (b := iv x82) rfl rfl (ix_sls (n := b.m.pn) (i := ((x82).toNat)) ((hB _ hc).sls 0 rfl) hx84 rfl rfl (by omega) (by omega))) ?_
       have hS := hR _ _ hM
       refine D_storeS (k := 0) (i := ((x82).toNat)) (z' := (vadd x84 (vscale (bentD b.m.ps x79.xs) b.bend))) (off := 0) (yv := .agg #[fl ((vadd x84 (vscale (bentD b.m.ps x79.xs) b.bend)).x), fl ((vadd x84 (vscale (bentD b.m.ps x79.xs) b.bend)).y), fl ((vadd x84 (vscale (bentD b.m.ps x79.xs) b.bend)).z)]) hS rfl rfl rfl rfl rfl (fun _ => rfl) rfl rfl rfl hx84 rfl rfl rfl rfl fun H hS => ?_
       have hx87 := set_get (z := (vadd x84 (vscale (bentD b.m.ps x79.xs) b.bend))) hx84
       refine th_norm ?_
       refine AWp_seq ?_
       have hR := hS.pushes
       have hKb := hS.keep
       have hB := fun Hc (hc : Keep _ Hc) => hR [] Hc (.base hc)
       refine AWp_D0 rfl (by decide +kernel) fun hM => ?_
       refine wd (sv a1 b.m.pn b.m.pn) rfl rfl (fun _ hc => dv_move rfl) ?_
       refine wd (sv x79.a x79.xs.length x79.c) rfl rfl (fun _ hc => dv_move rfl) ?_
       obtain ⟨x88, hx88⟩ := get_el (xs := x79.xs) (i := 1) (by omega)
       have ht89 := hinP_get hhk hx88
       refine wd (sp x79.a (1 * 1)) rfl rfl (fun _ hc => dv_indexAddr (a := sv x79.a x79.xs.length x79.c) (b := iv 1) rfl rfl (ix_sls (n := x79.xs.length) (i := 1) (rowsE_sls ((hB _ hc).at (i := 2) rfl) hx79) hx88 rfl rfl rfl (get_lt hx88))) ?_
       refine wd (iv x88) rfl rfl (fun _ hc => dv_load rfl (ld_sls (sz := 1) (off := 0) (rowsE_sls ((hB _ hc).at (i := 2) rfl) hx79) hx88 (fun _ => rfl) rfl rfl rfl)) ?_
       refine wd (sv a1 b.m.pn b.m.pn) rfl rfl (fun _ hc => dv_move rfl) ?_
       refine wd (sv x79.a x79.xs.length x79.c) rfl rfl (fun _ hc => dv_move rfl) ?_
       refine wd (sp x79.a (1 * 1)) rfl rfl (fun _ hc => dv_indexAddr (a := sv x79.a x79.xs.length x79.c) (b := iv 1) rfl rfl (ix_sls (n := x79.xs.length) (i := 1) (rowsE_sls ((hB _ hc).at (i := 2) rfl) hx79) hx88 rfl rfl rfl (get_lt hx88))) ?_
       refine wd (iv x88) rfl rfl (fun _ hc => dv_load rfl (ld_sls (sz := 1) (off := 0) (rowsE_sls ((hB _ hc).at (i := 2) rfl) hx79) hx88 (fun _ => rfl) rfl rfl rfl)) ?_
       obtain ⟨x90, hx90⟩ := get_el (xs := o.set ((x82).toNat) (vadd x84 (vscale (bentD b.m.ps x79.xs) b.bend))) (i := (x88).toNat) (by first | omega | (simp only [List.length_set]; omega))
       refine wd (sp a1 (((x88).toNat) * 3)) rfl rfl (fun _ hc => dv_indexAddr (a := sv a1 b.m.pn b.m.pn) (b := iv x88) rfl rfl (ix_sls (n := b.m.pn) (i := ((x88).toNat)) ((hB _ hc).sls 0 rfl) hx90 rfl rfl (by omega) (by omega))) ?_
       refine wd (va x90) rfl rfl (fun _ hc => dv_load rfl (ld_slsA (sz := 3) (m := 3) (ys := [fl x90.x, fl x90.y, fl x90.z]) (off := 0) ((hB _ hc).sls 0 rfl) hx90 (fun _ => rfl) rfl rfl (Nat.le_of_ble_eq_true rfl) rfl)) ?_
       refine wd (.agg #[fl ((bentD b.m.ps x79.xs).x), fl ((bentD b.m.ps x79.xs).y), fl ((bentD b.m.ps x79.xs).z)]) rfl rfl (fun _ hc => dv_load rfl (ld_boxA (n := 3) ((hB _ hc).box 3 rfl) rfl rfl (Nat.le_of_ble_eq_true rfl) rfl)) ?_
       refine wd (pt b_p b_o) rfl rfl (fun _ hc => dv_move rfl) ?_
       refine wd (pt b_p b_o) rfl rfl (fun _ hc => dv_nilCheck rfl) ?_
       refine wd (pt b_p (b_o + 4)) rfl rfl (fun _ hc => dv_fieldAddr rfl rfl) ?_
       refine wd (fl b.bend) rfl rfl (fun _ hc => dv_load rfl (ld_pv (off := 4) (hbpv.keep (hKb.trans hc)) rfl rfl rfl)) ?_
       refine W_call (vs := [.agg #[fl ((bentD b.m.ps x79.xs).x), fl ((bentD b.m.ps x79.xs).y), fl ((bentD b.m.ps x79.xs).z)], fl b.bend]) rfl rfl rfl rfl rfl rfl rfl (l01Scale_ok (bentD b.m.ps x79.xs) b.bend _) ?_
       rintro _ H ⟨v91, rfl, rfl, hQ⟩
       have hM := hM.up hQ.keep
       refine ⟨hM.keep, ?_⟩
       refine W_call (vs := [va x90, .agg #[fl ((vscale (bentD b.m.ps x79.xs) b.bend).x), fl ((vscale (bentD b.m.ps x79.xs) b.bend).y), fl ((vscale (bentD b.m.ps x79.xs) b.bend).z)]]) rfl rfl rfl rfl rfl rfl rfl (l01Add_ok x90 (vscale (bentD b.m.ps x79.xs) b.bend) _) ?_
       rintro _ H ⟨v92, rfl, rfl, hQ⟩
       have hM := hM.up hQ.keep
       refine ⟨hM.keep, ?_⟩
       refine wd (sp a1 (((x88).toNat) * 3)) rfl rfl (fun _ hc => dv_indexAddr (a := sv a1 b.m.pn b.m.pn) (b := iv x88) rfl rfl (ix_sls (n := b.m.pn) (i := ((x88).toNat)) ((hB _ hc).sls 0 rfl) hx90 rfl rfl (by omega) (by omega))) ?_
       have hS := hR _ _ hM
       refine D_storeS (k := 0) (i := ((x88).toNat)) (z' := (vadd x90 (vscale (bentD b.m.ps x79.xs) b.bend))) (off := 0) (yv := .agg #[fl ((vadd x90 (vscale (bentD b.m.ps x79.xs) b.bend)).x), fl ((vadd x90 (vscale (bentD b.m.ps x79.xs) b.bend)).y), fl ((vadd x90 (vscale (bentD b.m.ps x79.xs) b.bend)).z)]) hS rfl rfl rfl rfl rfl (fun _ => rfl) rfl rfl rfl hx90 rfl rfl rfl rfl fun H hS => ?_
       have hx93 := set_get (z := (vadd x90 (vscale (bentD b.m.ps x79.xs) b.bend))) hx90
       refine th_norm ?_
       refine AWp_seq ?_
       have hR := hS.pushes
       have hKb := hS.keep
       have hB := fun Hc (hc : Keep _ Hc) => hR [] Hc (.base hc)
       refine AWp_D0 rfl (by decide +kernel) fun hM => ?_
       refine wd (sv a1 b.m.pn b.m.pn) rfl rfl (fun _ hc => dv_move rfl) ?_
       refine wd (sv x79.a x79.xs.length x79.c) rfl rfl (fun _ hc => dv_move rfl) ?_
       obtain ⟨x94, hx94⟩ := get_el (xs := x79.xs) (i := 2) (by omega)
       have ht95 := hinP_get hhk hx94
       refine wd (sp x79.a (2 * 1)) rfl rfl (fun _ hc => dv_indexAddr (a := sv x79.a x79.xs.length x79.c) (b := iv 2) rfl rfl (ix_sls (n := x79.xs.length) (i := 2) (rowsE_sls ((hB _ hc).at (i := 2) rfl) hx79) hx94 rfl rfl rfl (get_lt hx94))) ?_
       refine wd (iv x94) rfl rfl (fun _ hc => dv_load rfl (ld_sls (sz := 1) (off := 0) (rowsE_sls ((hB _ hc).at (i := 2) rfl) hx79) hx94 (fun _ => rfl) rfl rfl rfl)) ?_
       refine wd (sv a1 b.m.pn b.m.pn) rfl rfl (fun _ hc => dv_move rfl) ?_
       refine wd (sv x79.a x79.xs.length x79.c) rfl rfl (fun _ hc => dv_move rfl) ?_
       refine wd (sp x79.a (2 * 1)) rfl rfl (fun _ hc => dv_indexAddr (a := sv x79.a x79.xs.length x79.c) (b := iv 2) rfl rfl (ix_sls (n := x79.xs.length) (i := 2) (rowsE_sls ((hB _ hc).at (i := 2) rfl) hx79) hx94 rfl rfl rfl (get_lt hx94))) ?_
       refine wd (iv x94) rfl rfl (fun _ hc => dv_load rfl (ld_sls (sz := 1) (off := 0) (rowsE_sls ((hB _ hc).at (i := 2) rfl) hx79) hx94 (fun _ => rfl) rfl rfl rfl)) ?_
       obtain ⟨x96, hx96⟩ := get_el (xs := (o.set ((x82).toNat) (vadd x84 (vscale (bentD b.m.ps x79.xs) b.bend))).set ((x88).toNat) (vadd x90 (vscale (bentD b.m.ps x79.xs) b.bend))) (i := (x94).toNat) (by first | omega | (simp only [List.length_set]; omega))
       refine wd (sp a1 (((x94).toNat) * 3)) rfl rfl (fun _ hc => dv_indexAddr (a := sv a1 b.m.pn b.m.pn) (b := iv x94) rfl rfl (ix_sls (n := b.m.pn) (i := ((x94).toNat)) ((hB _ hc).sls 0 rfl) hx96 rfl rfl (by omega) (by omega))) ?_
       refine wd (va x96) rfl rfl (fun _ hc => dv_load rfl (ld_slsA (sz := 3) (m := 3) (ys := [fl x96.x, fl x96.y, fl x96.z]) (off := 0) ((hB _ hc).sls 0 rfl) hx96 (fun _ => rfl) rfl rfl (Nat.le_of_ble_eq_true rfl) rfl)) ?_
       refine wd (.agg #[fl ((bentD b.m.ps x79.xs).x), fl ((bentD b.m.ps x79.xs).y), fl ((bentD b.m.ps x79.xs).z)]) rfl rfl (fun _ hc => dv_load rfl (ld_boxA (n := 3) ((hB _ hc).box 3 rfl) rfl rfl (Nat.le_of_ble_eq_true rfl) rfl)) ?_
       refine wd (pt b_p b_o) rfl rfl (fun _ hc => dv_move rfl) ?_
       refine wd (pt b_p b_o) rfl rfl (fun _ hc => dv_nilCheck rfl) ?_
       refine wd (pt b_p (b_o + 4)) rfl rfl (fun _ hc => dv_fieldAddr rfl rfl) ?_
       refine wd (fl b.bend) rfl rfl (fun _ hc => dv_load rfl (ld_pv (off := 4) (hbpv.keep (hKb.trans hc)) rfl rfl rfl)) ?_
       refine wd (fl (fneg .f32 b.bend)) rfl rfl (fun _ hc => dv_un rfl rfl) ?_
       refine W_call (vs := [.agg #[fl ((bentD b.m.ps x79.xs).x), fl ((bentD b.m.ps x79.xs).y), fl ((bentD b.m.ps x79.xs).z)], fl (fneg .f32 b.bend)]) rfl rfl rfl rfl rfl rfl rfl (l01Scale_ok (bentD b.m.ps x79.xs) (fneg .f32 b.bend) _) ?_
       rintro _ H ⟨v97, rfl, rfl, hQ⟩
       have hM := hM.up hQ.keep
       refine ⟨hM.keep, ?_⟩
       refine W_call (vs := [va x96, .agg #[fl ((vscale (bentD b.m.ps x79.xs) (fneg .f32 b.bend)).x), fl ((vscale (bentD b.m.ps x79.xs) (fneg .f32 b.bend)).y), fl ((vscale (bentD b.m.ps x79.xs) (fneg .f32 b.bend)).z)]]) rfl rfl rfl rfl rfl rfl rfl (l01Add_ok x96 (vscale (bentD b.m.ps x79.xs) (fneg .f32 b.bend)) _) ?_
       rintro _ H ⟨v98, rfl, rfl, hQ⟩
       have hM := hM.up hQ.keep
       refine ⟨hM.keep, ?_⟩
       refine wd (sp a1 (((x94).toNat) * 3)) rfl rfl (fun _ hc => dv_indexAddr (a := sv a1 b.m.pn b.m.pn) (b := iv x94) rfl rfl (ix_sls (n := b.m.pn) (i := ((x94).toNat)) ((hB _ hc).sls 0 rfl) hx96 rfl rfl (by omega) (by omega))) ?_
       have hS := hR _ _ hM
       refine D_storeS (k := 0) (i := ((x94).toNat)) (z' := (vadd x96 (vscale (bentD b.m.ps x79.xs) (fneg .f32 b.bend)))) (off := 0) (yv := .agg #[fl ((vadd x96 (vscale (bentD b.m.ps x79.xs) (fneg .f32 b.bend))).x), fl ((vadd x96 (vscale (bentD b.m.ps x79.xs) (fneg .f32 b.bend))).y), fl ((vadd x96 (vscale (bentD b.m.ps x79.xs) (fneg .f32 b.bend))).z)]) hS rfl rfl rfl rfl rfl (fun _ => rfl) rfl rfl rfl hx96 rfl rfl rfl rfl fun H hS => ?_
       have hx99 := set_get (z := (vadd x96 (vscale (bentD b.m.ps x79.xs) (fneg .f32 b.bend)))) hx96
       refine th_norm ?_
       have hR := hS.pushes
       have hKb := hS.keep
       have hB := fun Hc (hc : Keep _ Hc) => hR [] Hc (.base hc)
       refine AWp_D0 rfl (by decide +kernel) fun hM => ?_
       refine wd (sv a1 b.m.pn b.m.pn) rfl rfl (fun _ hc => dv_move rfl) ?_
       refine wd (sv x79.a x79.xs.length x79.c) rfl rfl (fun _ hc => dv_move rfl) ?_
       obtain ⟨x100, hx100⟩ := get_el (xs := x79.xs) (i := 3) (by omega)
       have ht101 := hinP_get hhk hx100
       refine wd (sp x79.a (3 * 1)) rfl rfl (fun _ hc => dv_indexAddr (a := sv x79.a x79.xs.length x79.c) (b := iv 3) rfl rfl (ix_sls (n := x79.xs.length) (i := 3) (rowsE_sls ((hB _ hc).at (i := 2) rfl) hx79) hx100 rfl rfl rfl (get_lt hx100))) ?_
       refine wd (iv x100) rfl rfl (fun _ hc => dv_load rfl (ld_sls (sz := 1) (off := 0) (rowsE_sls ((hB _ hc).at (i := 2) rfl) hx79) hx100 (fun _ => rfl) rfl rfl rfl)) ?_
       refine wd (sv a1 b.m.pn b.m.pn) rfl rfl (fun _ hc => dv_move rfl) ?_
       refine wd (sv x79.a x79.xs.length x79.c) rfl rfl (fun _ hc => dv_move rfl) ?_
       refine wd (sp x79.a (3 * 1)) rfl rfl (fun _ hc => dv_indexAddr (a := sv x79.a x79.xs.length x79.c) (b := iv 3) rfl rfl (ix_sls (n := x79.xs.length) (i := 3) (rowsE_sls ((hB _ hc).at (i := 2) rfl) hx79) hx100 rfl rfl rfl (get_lt hx100))) ?_
       refine wd (iv x100) rfl rfl (fun _ hc => dv_load rfl (ld_sls (sz := 1) (off := 0) (rowsE_sls ((hB _ hc).at (i := 2) rfl) hx79) hx100 (fun _ => rfl) rfl rfl rfl)) ?_
       obtain ⟨x102, hx102⟩ := get_el (xs := ((o.set ((x82).toNat) (vadd x84 (vscale (bentD b.m.ps x79.xs) b.bend))).set ((x88).toNat) (vadd x90 (vscale (bentD b.m.ps x79.xs) b.bend))).set ((x94).toNat) (vadd x96 (vscale (bentD b.m.ps x79.xs) (fneg .f32 b.bend)))) (i := (x100).toNat) (by first | omega | (simp only [List.length_set]; omega))
       refine wd (sp a1 (((x100).toNat) * 3)) rfl rfl (fun _ hc => dv_indexAddr (a := sv a1 b.m.pn b.m.pn) (b := iv x100) rfl rfl (ix_sls (n := b.m.pn) (i := ((x100).toNat)) ((hB _ hc).sls 0 rfl) hx102 rfl rfl (by omega) (by omega))) ?_
       refine wd (va x102) rfl rfl (fun _ hc => dv_load rfl (ld_slsA (sz := 3) (m := 3) (ys := [fl x102.x, fl x102.y, fl x102.z]) (off := 0) ((hB _ hc).sls 0 rfl) hx102 (fun _ => rfl) rfl rfl (Nat.le_of_ble_eq_true rfl) rfl)) ?_
       refine wd (.agg #[fl ((bentD b.m.ps x79.xs).x), fl ((bentD b.m.ps x79.xs).y), fl ((bentD b.m.ps x79.xs).z)]) rfl rfl (fun _ hc => dv_load rfl (ld_boxA (n := 3) ((hB _ hc).box 3 rfl) rfl rfl (Nat.le_of_ble_eq_true rfl) rfl)) ?_
       refine wd (pt b_p b_o) rfl rfl (fun _ hc => dv_move rfl) ?_
       refine wd (pt b_p b_o) rfl rfl (fun _ hc => dv_nilCheck rfl) ?_
       refine wd (pt b_p (b_o + 4)) rfl rfl (fun _ hc => dv_fieldAddr rfl rfl) ?_
       refine wd (fl b.bend) rfl rfl (fun _ hc => dv_load rfl (ld_pv (off := 4) (hbpv.keep (hKb.trans hc)) rfl rfl rfl)) ?_
       refine wd (fl (fneg .f32 b.bend)) rfl rfl (fun _ hc => dv_un rfl rfl) ?_
       refine W_call (vs := [.agg #[fl ((bentD b.m.ps x79.xs).x), fl ((bentD b.m.ps x79.xs).y), fl ((bentD b.m.ps x79.xs).z)], fl (fneg .f32 b.bend)]) rfl rfl rfl rfl rfl rfl rfl (l01Scale_ok (bentD b.m.ps x79.xs) (fneg .f32 b.bend) _) ?_
       rintro _ H ⟨v103, rfl, rfl, hQ⟩
       have hM := hM.up hQ.keep
       refine ⟨hM.keep, ?_⟩
       refine W_call (vs := [va x102, .agg #[fl ((vscale (bentD b.m.ps x79.xs) (fneg .f32 b.bend)).x), fl ((vscale (bentD b.m.ps x79.xs) (fneg .f32 b.bend)).y), fl ((vscale (bentD b.m.ps x79.xs) (fneg .f32 b.bend)).z)]]) rfl rfl rfl rfl rfl rfl rfl (l01Add_ok x102 (vscale (bentD b.m.ps x79.xs) (fneg .f32 b.bend)) _) ?_
       rintro _ H ⟨v104, rfl, rfl, hQ⟩
       have hM := hM.up hQ.keep
       refine ⟨hM.keep, ?_⟩
       refine wd (sp a1 (((x100).toNat) * 3)) rfl rfl (fun _ hc => dv_indexAddr (a := sv a1 b.m.pn b.m.pn) (b := iv x100) rfl rfl (ix_sls (n := b.m.pn) (i := ((x100).toNat)) ((hB _ hc).sls 0 rfl) hx102 rfl rfl (by omega) (by omega))) ?_
       have hS := hR _ _ hM
       refine D_storeS (k := 0) (i := ((x100).toNat)) (z' := (vadd x102 (vscale (bentD b.m.ps x79.xs) (fneg .f32 b.bend)))) (off := 0) (yv := .agg #[fl ((vadd x102 (vscale (bentD b.m.ps x79.xs) (fneg .f32 b.bend))).x), fl ((vadd x102 (vscale (bentD b.m.ps x79.xs) (fneg .f32 b.bend))).y), fl ((vadd x102 (vscale (bentD b.m.ps x79.xs) (fneg .f32 b.bend))).z)]) hS rfl rfl rfl rfl rfl (fun _ => rfl) rfl rfl rfl hx102 rfl rfl rfl rfl fun H hS => ?_
       have hx105 := set_get (z := (vadd x102 (vscale (bentD b.m.ps x79.xs) (fneg .f32 b.bend)))) hx102
       refine bl_norm ?_
       refine th_norm ?_
       refine AWp_E rfl ?_
       refine ed (iv ((l + 1 : Nat) : Int)) rfl rfl (dv_bin rfl rfl (bi_add (by omega))) ?_
       refine ed (iv ((l + 1 : Nat) : Int)) rfl rfl (dv_move rfl) ?_
       refine E_nil ?_
       refine loop_next (I := I72) (x69.length - (l + 1)) (by rw [hm75]; omega) ?_
       rw [hI72]
       refine ⟨l + 1, (((o.set ((x82).toNat) (vadd x84 (vscale (bentD b.m.ps x79.xs) b.bend))).set ((x88).toNat) (vadd x90 (vscale (bentD b.m.ps x79.xs) b.bend))).set ((x94).toNat) (vadd x96 (vscale (bentD b.m.ps x79.xs) (fneg .f32 b.bend)))).set ((x100).toNat) (vadd x102 (vscale (bentD b.m.ps x79.xs) (fneg .f32 b.bend))), rfl, (all_c rfl (all_c rfl (all_c rfl (all_c rfl (all_c rfl (all_c rfl (all_c rfl (all_c rfl (all_c rfl (all_c rfl (all_c rfl (all_c rfl (all_c rfl (all_c rfl (all_c rfl (all_c rfl (all_c rfl (all_c rfl (all_c rfl (all_c rfl (all_c rfl (all_c rfl (all_c rfl (all_c rfl (all_c rfl (all_c rfl (all_c rfl (all_c rfl (all_c rfl (all_c rfl (all_c rfl (all_c rfl (all_c rfl all_n))))))))))))))))))))))))))))))))), (hS.pick [0, 1, 2] rfl), (by rw [List.length_set]; exact (by rw [List.length_set]; exact (by rw [List.length_set]; exact (by rw [List.length_set]; exact ho_n)))), ?_, ?_⟩
       · omega
       · refine iter_to ho ?_
         simp only [force2, push, pushH, LB.d, LM.d, rxs, Msh.hinges, Int.toNat_natCast, gD 0 hx82, at3_of hx84, at3_of hx87, gD 0 hx88, at3_of hx90, at3_of hx93, gD 0 hx94, at3_of hx96, at3_of hx99, gD 0 hx100, at3_of hx102, at3_of hx105, gD [] (rows_get h70 hx79)]
      ·
       refine ed no rfl rfl (dv_bin rfl rfl (bi_lss_f hc78)) ?_
       refine E_nil ?_
       refine th_norm ?_
       refine AWp_seq ?_
       refine AWp_cond (t := false) rfl nofun (fun _ => ?_)
       refine AWp_exit (th_exit (th_exit (bl_exit (?_))))
       refine th_norm ?_
       refine AWp_seq ?_
       refine AWp_seq ?_
       refine AWp_E rfl ?_
       refine ed (pt b_p b_o) rfl rfl (dv_move rfl) ?_
       refine ed (pt b_p b_o) rfl rfl (dv_nilCheck rfl) ?_
       refine ed (pt b_p b_o) rfl rfl (dv_fieldAddr rfl rfl) ?_
       refine ed (sv b.m.pa b.m.pn b.m.pc) rfl rfl (dv_load rfl (ld_pv (off := 0) (hbpv.keep hS.keep) rfl rfl rfl)) ?_
       refine ed (iv ((b.m.pn : Nat) : Int)) rfl rfl (dv_len rfl rfl rfl rfl rfl) ?_
       refine ed (iv 0) rfl rfl (dv_move rfl) ?_
       refine E_nil ?_
       refine th_norm ?_
       refine AWp_block ?_
       obtain ⟨I106, hI106⟩ : ∃ I : Nat → Env → AH → Prop, ∀ m_ e_ Hl, I m_ e_ Hl = (∃ (q : Nat) (o : List (V3)), m_ = b.m.pn - q ∧ AllE [(0, pt b_p b_o), (2, sv none 0 0), (3, pt b_p b_o), (4, sv a1 b.m.pn b.m.pn), (15, sv x66 x69.length x68), (20, pt b_p b_o), (21, pt b_p b_o), (22, pt b_p b_o), (23, pt b_p b_o), (24, pt b_p b_o), (25, pt b_p b_o), (26, sv b.m.pa b.m.pn b.m.pc), (27, iv ((b.m.pn : Nat) : Int)), (28, sv a1 b.m.pn b.m.pn), (29, pt b_p b_o), (30, pt b_p b_o), (31, pt b_p (b_o + 2)), (32, sv b.sa b.sn b.sc), (33, iv ((b.sn : Nat) : Int)), (34, iv ((i : Nat) : Int)), (35, no), (85, pt b_p b_o), (86, pt b_p b_o), (87, pt b_p (b_o + 1)), (88, sv b.m.ta b.m.tn b.m.tc), (89, iv ((b.m.tn : Nat) : Int)), (90, iv ((j : Nat) : Int)), (91, no), (161, pt b_p b_o), (162, sv x66 x69.length x68), (163, sv x66 x69.length x68), (164, iv ((x69.length : Nat) : Int)), (165, iv ((l : Nat) : Int)), (166, no), (250, pt b_p b_o), (251, pt b_p b_o), (252, pt b_p b_o), (253, sv b.m.pa b.m.pn b.m.pc), (254, iv ((b.m.pn : Nat) : Int)), (255, iv ((q : Nat) : Int))] e_ ∧ SepL H0 [sl encV 41 3 a1 b.m.pn o, sl encR 53 1 x66 x68 x69, rowsE 2 x69] Hl ∧ o.length = b.m.pn ∧ (q ≤ b.m.pn) ∧ (o = (iter (force3 b.d) (iter (force2 b.d) (iter (force1 b.d) (iter (force0 b.d) (List.replicate b.m.ps.length v0) b.ss.length) (rxs b.m.ts).length) (hingesD b.m.ps.length (rxs b.m.ts)).length) q))) := ⟨_, fun _ _ _ => rfl⟩
       refine AWp_loop I106 (b.m.pn - (0)) ?_ ?_
       ·
        rw [hI106]
        refine ⟨0, o, rfl, (all_c rfl (all_c rfl (all_c rfl (all_c rfl (all_c rfl (all_c rfl (all_c rfl (all_c rfl (all_c rfl (all_c rfl (all_c rfl (all_c rfl (all_c rfl (all_c rfl (all_c rfl (all_c rfl (all_c rfl (all_c rfl (all_c rfl (all_c rfl (all_c rfl (all_c rfl (all_c rfl (all_c rfl (all_c rfl (all_c rfl (all_c rfl (all_c rfl (all_c rfl (all_c rfl (all_c rfl (all_c rfl (all_c rfl (all_c rfl (all_c rfl (all_c rfl (all_c rfl (all_c rfl (all_c rfl (all_c rfl all_n)))))))))))))))))))))))))))))))))))))))), hS, ho_n, ?_, ?_⟩
        · omega
        · have hii : l = (hingesD b.m.ps.length (rxs b.m.ts)).length := by omega
          rw [ho, hii]; rfl
       ·
        intro m107 _ H hl108
        rw [hI106] at hl108
        obtain ⟨q, o, hm109, he110, hS, ho_n, hi, ho⟩ := hl108
        obtain ⟨e111, rfl⟩ := he110.ex
        refine AWp_seq ?_
        refine AWp_E rfl ?_
        rcases Decidable.em (((q : Nat) : Int) < ((b.m.pn : Nat) : Int)) with hc112 | hc112
        ·
         refine ed yes rfl rfl (dv_bin rfl rfl (bi_lss_t hc112)) ?_
         refine E_nil ?_
         refine th_norm ?_
         refine AWp_seq ?_
         refine AWp_cond (t := true) rfl (fun _ => ?_) nofun
         refine AWp_skip ?_
         refine th_norm ?_
         refine AWp_seq ?_
         refine AWp_block ?_
         refine AWp_seq ?_
         refine AWp_E rfl ?_
         refine ed (iv ((q : Nat) : Int)) rfl rfl (dv_move rfl) ?_
         refine ed (iv ((q : Nat) : Int)) rfl rfl (dv_assign rfl) ?_
         refine E_nil ?_
         refine th_norm ?_
         have hR := hS.pushes
         have hKb := hS.keep
         have hB := fun Hc (hc : Keep _ Hc) => hR [] Hc (.base hc)
         refine AWp_D0 rfl (by decide +kernel) fun hM => ?_
         refine wd (sv a1 b.m.pn b.m.pn) rfl rfl (fun _ hc => dv_move rfl) ?_
         refine wd (iv ((q : Nat) : Int)) rfl rfl (fun _ hc => dv_move rfl) ?_
         refine wd (sv a1 b.m.pn b.m.pn) rfl rfl (fun _ hc => dv_move rfl) ?_
         refine wd (iv ((q : Nat) : Int)) rfl rfl (fun _ hc => dv_move rfl) ?_
         obtain ⟨x113, hx113⟩ := get_el (xs := o) (i := q) (by omega)
         refine wd (sp a1 (q * 3)) rfl rfl (fun _ hc => dv_indexAddr (a := sv a1 b.m.pn b.m.pn) (b := iv ((q : Nat) : Int)) rfl rfl (ix_sls (n := b.m.pn) (i := q) ((hB _ hc).sls 0 rfl) hx113 rfl rfl rfl (by omega))) ?_
         refine wd (va x113) rfl rfl (fun _ hc => dv_load rfl (ld_slsA (sz := 3) (m := 3) (ys := [fl x113.x, fl x113.y, fl x113.z]) (off := 0) ((hB _ hc).sls 0 rfl) hx113 (fun _ => rfl) rfl rfl (Nat.le_of_ble_eq_true rfl) rfl)) ?_
         refine wd (pt b_p b_o) rfl rfl (fun _ hc => dv_move rfl) ?_
         refine wd (pt b_p b_o) rfl rfl (fun _ hc => dv_nilCheck rfl) ?_
         refine wd (pt b_p (b_o + 6)) rfl rfl (fun _ hc => dv_fieldAddr rfl rfl) ?_
         refine wd (va b.fall) rfl rfl (fun _ hc => dv_load rfl (ld_pvA (off := 6) (n := 3) (hbpv.keep (hKb.trans hc)) rfl rfl rfl rfl)) ?_
         refine wd (pt b_p b_o) rfl rfl (fun _ hc => dv_move rfl) ?_
         refine wd (pt b_p b_o) rfl rfl (fun _ hc => dv_nilCheck rfl) ?_
         refine wd (pt b_p (b_o + 5)) rfl rfl (fun _ hc => dv_fieldAddr rfl rfl) ?_
         refine wd (sv b.wa b.wn b.wc) rfl rfl (fun _ hc => dv_load rfl (ld_pv (off := 5) (hbpv.keep (hKb.trans hc)) rfl rfl rfl)) ?_
         refine wd (iv ((q : Nat) : Int)) rfl rfl (fun _ hc => dv_move rfl) ?_
         obtain ⟨x114, hx114⟩ := get_el (xs := b.ws) (i := q) (by omega)
         refine wd (sp b.wa (q * 1)) rfl rfl (fun _ hc => dv_indexAddr (a := sv b.wa b.wn b.wc) (b := iv ((q : Nat) : Int)) rfl rfl (ix_sls (n := b.wn) (i := q) (hb_ws.keep (hKb.trans hc)) hx114 rfl rfl rfl (by omega))) ?_
         refine wd (fl x114) rfl rfl (fun _ hc => dv_load rfl (ld_sls (sz := 1) (off := 0) (hb_ws.keep (hKb.trans hc)) hx114 (fun _ => rfl) rfl rfl rfl)) ?_
         refine W_call (vs := [va b.fall, fl x114]) rfl rfl rfl rfl rfl rfl rfl (l01Scale_ok b.fall x114 _) ?_
         rintro _ H ⟨v115, rfl, rfl, hQ⟩
         have hM := hM.up hQ.keep
         refine ⟨hM.keep, ?_⟩
         refine W_call (vs := [va x113, .agg #[fl ((vscale b.fall x114).x), fl ((vscale b.fall x114).y), fl ((vscale b.fall x114).z)]]) rfl rfl rfl rfl rfl rfl rfl (l01Add_ok x113 (vscale b.fall x114) _) ?_
         rintro _ H ⟨v116, rfl, rfl, hQ⟩
         have hM := hM.up hQ.keep
         refine ⟨hM.keep, ?_⟩
         refine wd (sp a1 (q * 3)) rfl rfl (fun _ hc => dv_indexAddr (a := sv a1 b.m.pn b.m.pn) (b := iv ((q : Nat) : Int)) rfl rfl (ix_sls (n := b.m.pn) (i := q) ((hB _ hc).sls 0 rfl) hx113 rfl rfl rfl (by omega))) ?_
         have hS := hR _ _ hM
         refine D_storeS (k := 0) (i := q) (z' := (vadd x113 (vscale b.fall x114))) (off := 0) (yv := .agg #[fl ((vadd x113 (vscale b.fall x114)).x), fl ((vadd x113 (vscale b.fall x114)).y), fl ((vadd x113 (vscale b.fall x114)).z)]) hS rfl rfl rfl rfl rfl (fun _ => rfl) rfl rfl rfl hx113 rfl rfl rfl rfl fun H hS => ?_
         have hx117 := set_get (z := (vadd x113 (vscale b.fall x114))) hx113
         refine bl_norm ?_
         refine th_norm ?_
         refine AWp_E rfl ?_
         refine ed (iv ((q + 1 : Nat) : Int)) rfl rfl (dv_bin rfl rfl (bi_add (by omega))) ?_
         refine ed (iv ((q + 1 : Nat) : Int)) rfl rfl (dv_move rfl) ?_
         refine E_nil ?_
         refine loop_next (I := I106) (b.m.pn - (q + 1)) (by rw [hm109]; omega) ?_
         rw [hI106]
         refine ⟨q + 1, o.set q (vadd x113 (vscale b.fall x114)), rfl, (all_c rfl (all_c rfl (all_c rfl (all_c rfl (all_c rfl (all_c rfl (all_c rfl (all_c rfl (all_c rfl (all_c rfl (all_c rfl (all_c rfl (all_c rfl (all_c rfl (all_c rfl (all_c rfl (all_c rfl (all_c rfl (all_c rfl (all_c rfl (all_c rfl (all_c rfl (all_c rfl (all_c rfl (all_c rfl (all_c rfl (all_c rfl (all_c rfl (all_c rfl (all_c rfl (all_c rfl (all_c rfl (all_c rfl (all_c rfl (all_c rfl (all_c rfl (all_c rfl (all_c rfl (all_c rfl (all_c rfl all_n)))))))))))))))))))))))))))))))))))))))), hS, (by rw [List.length_set]; exact ho_n), ?_, ?_⟩
         · omega
         · refine iter_to ho ?_
           simp only [force3, push, pushH, LB.d, LM.d, rxs, Msh.hinges, Int.toNat_natCast, gD v0 hx113, gD 0 hx114, gD v0 hx117, at3_nat hx113, at3_nat hx117]
        ·
         refine ed no rfl rfl (dv_bin rfl rfl (bi_lss_f hc112)) ?_
         refine E_nil ?_
         refine th_norm ?_
         refine AWp_seq ?_
         refine AWp_cond (t := false) rfl nofun (fun _ => ?_)
         refine AWp_exit (th_exit (th_exit (bl_exit (?_))))
         refine th_norm ?_
         refine AWp_seq ?_
         refine AWp_E rfl ?_
         refine ed (sv a1 b.m.pn b.m.pn) rfl rfl (dv_move rfl) ?_
         refine ed (sv a1 b.m.pn b.m.pn) rfl rfl (dv_assign rfl) ?_
         refine E_nil ?_
         refine th_norm ?_
         refine AWp_ret (?_)
         refine ret_of ?_
         refine readsRes_of (rs := [.tmp 2]) (vs := [sv a1 b.m.pn b.m.pn]) rfl (re_cons (re_tmp rfl) (re_nil)) rfl ?_
         refine ⟨a1, b.m.pn, b.m.pn, o, ?_, ?_, ho_n, rfl, hS.pick [0] rfl⟩
         · omega
         · have hii : q = b.m.ps.length := by omega
           rw [ho, hii]; rfl
end Go.Ab

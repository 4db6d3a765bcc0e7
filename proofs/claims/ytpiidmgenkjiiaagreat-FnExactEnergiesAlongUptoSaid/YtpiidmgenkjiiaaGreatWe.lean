/- Walks through functions of the program: what each computes, told over that view of memory; each with the conditions that it tells. -/
import Derived.Test.YtpiidmgenkjiiaaGreatProg
import Derived.Test.YtpiidmgenkjiiaaGreatWc
import Derived.Test.YtpiidmgenkjiiaaGreatWd
set_option maxRecDepth 100000
set_option maxHeartbeats 4000000
namespace Go.Ab
open Go.Proofs
theorem alongSpring_ok (b : LB) (s : Spr) (H : AH) (hb : b.ok H) (hs0 : sprP b.m.ps.length s) : ACalls Tryz.prog 125 [bva b, .agg #[iv s.A, iv s.B, fl s.Long, fl s.Stiff]] H
  (fun r H' => ∃ (v_ : V3), alongD b.m.ps s = v_ ∧ r = va v_ ∧ SepL H [] H') := by
 refine ACalls_of Tryz.func125 rfl (Nat.le_of_ble_eq_true rfl) ?_
 obtain ⟨H0, hH0⟩ : ∃ H0, H0 = H := ⟨_, rfl⟩
 have hS : SepL H0 [] H := hH0 ▸ SepL.refl H
 subst hH0
 obtain ⟨⟨hb_1_ps, hb_1_pn, hb_1_pb⟩, hb_1_ts, hb_1_tn, hb_1_tb⟩ := id hb.1
 obtain ⟨⟨hb_ss, hb_sn, hb_sb⟩, hb_ws, hb_wn, hb_wb⟩ := hb.2
 have hsp := hs0
 unfold sprP inP at hsp
 refine AWp_seq ?_
 refine AWp_E rfl ?_
 refine S_box (l := [sv b.m.pa b.m.pn b.m.pc, sv b.m.ta b.m.tn b.m.tc, sv b.sa b.sn b.sc, fl b.film, fl b.bend, sv b.wa b.wn b.wc, fl b.fall.x, fl b.fall.y, fl b.fall.z]) hS rfl rfl rfl rfl rfl fun b1 H hS => ?_
 refine S_box (l := [iv s.A, iv s.B, fl s.Long, fl s.Stiff]) hS rfl rfl rfl rfl rfl fun b2 H hS => ?_
 refine S_box (l := [fl 0, fl 0, fl 0]) hS rfl rfl rfl rfl rfl fun b3 H hS => ?_
 refine E_nil ?_
 refine th_norm ?_
 refine AWp_seq ?_
 have hR := hS.pushes
 have hKb := hS.keep
 have hB := fun Hc (hc : Keep _ Hc) => hR [] Hc (.base hc)
 refine AWp_D0 rfl (by decide +kernel) fun hM => ?_
 refine wd (pt b1 0) rfl rfl (fun _ hc => dv_fieldAddr rfl rfl) ?_
 refine wd (pt b1 0) rfl rfl (fun _ hc => dv_fieldAddr rfl rfl) ?_
 refine wd (sv b.m.pa b.m.pn b.m.pc) rfl rfl (fun _ hc => dv_load rfl (ld_box ((hB _ hc).box 0 rfl) rfl rfl rfl)) ?_
 refine wd (pt b2 1) rfl rfl (fun _ hc => dv_fieldAddr rfl rfl) ?_
 refine wd (iv s.B) rfl rfl (fun _ hc => dv_load rfl (ld_box ((hB _ hc).box 1 rfl) rfl rfl rfl)) ?_
 obtain ⟨x4, hx4⟩ := get_el (xs := b.m.ps) (i := (s.B).toNat) (by omega)
 refine wd (sp b.m.pa (((s.B).toNat) * 3)) rfl rfl (fun _ hc => dv_indexAddr (a := sv b.m.pa b.m.pn b.m.pc) (b := iv s.B) rfl rfl (ix_sls (n := b.m.pn) (i := ((s.B).toNat)) (hb_1_ps.keep (hKb.trans hc)) hx4 rfl rfl (by omega) (by omega))) ?_
 refine wd (va x4) rfl rfl (fun _ hc => dv_load rfl (ld_slsA (sz := 3) (m := 3) (ys := [fl x4.x, fl x4.y, fl x4.z]) (off := 0) (hb_1_ps.keep (hKb.trans hc)) hx4 (fun _ => rfl) rfl rfl (Nat.le_of_ble_eq_true rfl) rfl)) ?_
 refine wd (pt b1 0) rfl rfl (fun _ hc => dv_fieldAddr rfl rfl) ?_
 refine wd (pt b1 0) rfl rfl (fun _ hc => dv_fieldAddr rfl rfl) ?_
 refine wd (sv b.m.pa b.m.pn b.m.pc) rfl rfl (fun _ hc => dv_load rfl (ld_box ((hB _ hc).box 0 rfl) rfl rfl rfl)) ?_
 refine wd (pt b2 0) rfl rfl (fun _ hc => dv_fieldAddr rfl rfl) ?_
 refine wd (iv s.A) rfl rfl (fun _ hc => dv_load rfl (ld_box ((hB _ hc).box 1 rfl) rfl rfl rfl)) ?_
 obtain ⟨x5, hx5⟩ := get_el (xs := b.m.ps) (i := (s.A).toNat) (by omega)
 refine wd (sp b.m.pa (((s.A).toNat) * 3)) rfl rfl (fun _ hc => dv_indexAddr (a := sv b.m.pa b.m.pn b.m.pc) (b := iv s.A) rfl rfl (ix_sls (n := b.m.pn) (i := ((s.A).toNat)) (hb_1_ps.keep (hKb.trans hc)) hx5 rfl rfl (by omega) (by omega))) ?_
 refine wd (va x5) rfl rfl (fun _ hc => dv_load rfl (ld_slsA (sz := 3) (m := 3) (ys := [fl x5.x, fl x5.y, fl x5.z]) (off := 0) (hb_1_ps.keep (hKb.trans hc)) hx5 (fun _ => rfl) rfl rfl (Nat.le_of_ble_eq_true rfl) rfl)) ?_
 refine W_call (vs := [va x4, va x5]) rfl rfl rfl rfl rfl rfl rfl (LessVectors_ok x4 x5 _) ?_
 rintro _ H ⟨v6, rfl, rfl, hQ⟩
 have hM := hM.up hQ.keep
 refine ⟨hM.keep, ?_⟩
 have hS := hR _ _ hM
 refine D_store (i := 2) (yv := .agg #[fl ((vsub x4 x5).x), fl ((vsub x4 x5).y), fl ((vsub x4 x5).z)]) (l' := [fl ((vsub x4 x5).x), fl ((vsub x4 x5).y), fl ((vsub x4 x5).z)]) hS rfl rfl rfl rfl rfl rfl rfl rfl rfl rfl rfl rfl rfl fun H hS => ?_
 refine th_norm ?_
 refine AWp_ret (?_)
 refine ret_of ?_
 refine readsRes_of (rs := [.cell 4 41]) (vs := [.agg #[fl ((vsub x4 x5).x), fl ((vsub x4 x5).y), fl ((vsub x4 x5).z)]]) rfl (re_cons (re_cell (p := pt b3 0) rfl (ld_boxA (n := 3) (hS.box 2 rfl) rfl rfl (Nat.le_of_ble_eq_true rfl) rfl)) (re_nil)) rfl ?_
 refine ⟨(vsub x4 x5), ?_, rfl, .base hS.keep⟩
 · simp only [alongD, at3_of hx4, at3_of hx5] <;> first | assumption | omega
theorem normalOf_ok (m : LM) (t_a : Option Addr) (t_n t_c : Nat) (t : List (Int)) (H : AH) (hm : m.ok H) (ht : VS H encI t_a t_n t) (ht0 : triP t m.ps.length) : ACalls Tryz.prog 126 [mva m, sv t_a t_n t_c] H
  (fun r H' => ∃ (v_ : V3), normalD m.ps t = v_ ∧ r = va v_ ∧ SepL H [] H') := by
 refine ACalls_of Tryz.func126 rfl (Nat.le_of_ble_eq_true rfl) ?_
 obtain ⟨H0, hH0⟩ : ∃ H0, H0 = H := ⟨_, rfl⟩
 have hS : SepL H0 [] H := hH0 ▸ SepL.refl H
 subst hH0
 obtain ⟨⟨hm_ps, hm_pn, hm_pb⟩, hm_ts, hm_tn, hm_tb⟩ := id hm
 obtain ⟨ht_s, ht_n, ht_b⟩ := id ht
 have hl3 := ht0.1
 refine AWp_seq ?_
 refine AWp_E rfl ?_
 refine S_box (l := [sv m.pa m.pn m.pc, sv m.ta m.tn m.tc]) hS rfl rfl rfl rfl rfl fun b1 H hS => ?_
 refine S_box (l := [fl 0, fl 0, fl 0]) hS rfl rfl rfl rfl rfl fun b2 H hS => ?_
 refine E_nil ?_
 refine th_norm ?_
 refine AWp_seq ?_
 have hR := hS.pushes
 have hKb := hS.keep
 have hB := fun Hc (hc : Keep _ Hc) => hR [] Hc (.base hc)
 refine AWp_D0 rfl (by decide +kernel) fun hM => ?_
 refine wd (pt b1 0) rfl rfl (fun _ hc => dv_fieldAddr rfl rfl) ?_
 refine wd (sv m.pa m.pn m.pc) rfl rfl (fun _ hc => dv_load rfl (ld_box ((hB _ hc).box 0 rfl) rfl rfl rfl)) ?_
 refine wd (sv t_a t_n t_c) rfl rfl (fun _ hc => dv_move rfl) ?_
 obtain ⟨x3, hx3⟩ := get_el (xs := t) (i := 0) (by omega)
 have ht4 := triP_get ht0 hx3
 unfold inP at ht4
 refine wd (sp t_a (0 * 1)) rfl rfl (fun _ hc => dv_indexAddr (a := sv t_a t_n t_c) (b := iv 0) rfl rfl (ix_sls (n := t_n) (i := 0) (ht_s.keep (hKb.trans hc)) hx3 rfl rfl rfl (by omega))) ?_
 refine wd (iv x3) rfl rfl (fun _ hc => dv_load rfl (ld_sls (sz := 1) (off := 0) (ht_s.keep (hKb.trans hc)) hx3 (fun _ => rfl) rfl rfl rfl)) ?_
 obtain ⟨x5, hx5⟩ := get_el (xs := m.ps) (i := (x3).toNat) (by omega)
 refine wd (sp m.pa (((x3).toNat) * 3)) rfl rfl (fun _ hc => dv_indexAddr (a := sv m.pa m.pn m.pc) (b := iv x3) rfl rfl (ix_sls (n := m.pn) (i := ((x3).toNat)) (hm_ps.keep (hKb.trans hc)) hx5 rfl rfl (by omega) (by omega))) ?_
 refine wd (va x5) rfl rfl (fun _ hc => dv_load rfl (ld_slsA (sz := 3) (m := 3) (ys := [fl x5.x, fl x5.y, fl x5.z]) (off := 0) (hm_ps.keep (hKb.trans hc)) hx5 (fun _ => rfl) rfl rfl (Nat.le_of_ble_eq_true rfl) rfl)) ?_
 refine D_box (l := [fl 0, fl 0, fl 0]) hM rfl rfl rfl rfl rfl fun b6 H hM => ?_
 have hS := hR _ _ hM
 refine D_store (i := 2) (yv := va x5) (l' := [fl x5.x, fl x5.y, fl x5.z]) hS rfl rfl rfl rfl rfl rfl rfl rfl rfl rfl rfl rfl rfl fun H hS => ?_
 refine th_norm ?_
 refine AWp_seq ?_
 have hR := hS.pushes
 have hKb := hS.keep
 have hB := fun Hc (hc : Keep _ Hc) => hR [] Hc (.base hc)
 refine AWp_D0 rfl (by decide +kernel) fun hM => ?_
 refine wd (pt b1 0) rfl rfl (fun _ hc => dv_fieldAddr rfl rfl) ?_
 refine wd (sv m.pa m.pn m.pc) rfl rfl (fun _ hc => dv_load rfl (ld_box ((hB _ hc).box 0 rfl) rfl rfl rfl)) ?_
 refine wd (sv t_a t_n t_c) rfl rfl (fun _ hc => dv_move rfl) ?_
 obtain ⟨x7, hx7⟩ := get_el (xs := t) (i := 1) (by omega)
 have ht8 := triP_get ht0 hx7
 unfold inP at ht8
 refine wd (sp t_a (1 * 1)) rfl rfl (fun _ hc => dv_indexAddr (a := sv t_a t_n t_c) (b := iv 1) rfl rfl (ix_sls (n := t_n) (i := 1) (ht_s.keep (hKb.trans hc)) hx7 rfl rfl rfl (by omega))) ?_
 refine wd (iv x7) rfl rfl (fun _ hc => dv_load rfl (ld_sls (sz := 1) (off := 0) (ht_s.keep (hKb.trans hc)) hx7 (fun _ => rfl) rfl rfl rfl)) ?_
 obtain ⟨x9, hx9⟩ := get_el (xs := m.ps) (i := (x7).toNat) (by omega)
 refine wd (sp m.pa (((x7).toNat) * 3)) rfl rfl (fun _ hc => dv_indexAddr (a := sv m.pa m.pn m.pc) (b := iv x7) rfl rfl (ix_sls (n := m.pn) (i := ((x7).toNat)) (hm_ps.keep (hKb.trans hc)) hx9 rfl rfl (by omega) (by omega))) ?_
 refine wd (va x9) rfl rfl (fun _ hc => dv_load rfl (ld_slsA (sz := 3) (m := 3) (ys := [fl x9.x, fl x9.y, fl x9.z]) (off := 0) (hm_ps.keep (hKb.trans hc)) hx9 (fun _ => rfl) rfl rfl (Nat.le_of_ble_eq_true rfl) rfl)) ?_
 refine wd (va x5) rfl rfl (fun _ hc => dv_load rfl (ld_boxA (n := 3) ((hB _ hc).box 2 rfl) rfl rfl (Nat.le_of_ble_eq_true rfl) rfl)) ?_
 refine W_call (vs := [va x9, va x5]) rfl rfl rfl rfl rfl rfl rfl (LessVectors_ok x9 x5 _) ?_
 rintro _ H ⟨v10, rfl, rfl, hQ⟩
 have hM := hM.up hQ.keep
 refine ⟨hM.keep, ?_⟩
 refine wd (pt b1 0) rfl rfl (fun _ hc => dv_fieldAddr rfl rfl) ?_
 refine wd (sv m.pa m.pn m.pc) rfl rfl (fun _ hc => dv_load rfl (ld_box ((hB _ hc).box 0 rfl) rfl rfl rfl)) ?_
 refine wd (sv t_a t_n t_c) rfl rfl (fun _ hc => dv_move rfl) ?_
 obtain ⟨x11, hx11⟩ := get_el (xs := t) (i := 2) (by omega)
 have ht12 := triP_get ht0 hx11
 unfold inP at ht12
 refine wd (sp t_a (2 * 1)) rfl rfl (fun _ hc => dv_indexAddr (a := sv t_a t_n t_c) (b := iv 2) rfl rfl (ix_sls (n := t_n) (i := 2) (ht_s.keep (hKb.trans hc)) hx11 rfl rfl rfl (by omega))) ?_
 refine wd (iv x11) rfl rfl (fun _ hc => dv_load rfl (ld_sls (sz := 1) (off := 0) (ht_s.keep (hKb.trans hc)) hx11 (fun _ => rfl) rfl rfl rfl)) ?_
 obtain ⟨x13, hx13⟩ := get_el (xs := m.ps) (i := (x11).toNat) (by omega)
 refine wd (sp m.pa (((x11).toNat) * 3)) rfl rfl (fun _ hc => dv_indexAddr (a := sv m.pa m.pn m.pc) (b := iv x11) rfl rfl (ix_sls (n := m.pn) (i := ((x11).toNat)) (hm_ps.keep (hKb.trans hc)) hx13 rfl rfl (by omega) (by omega))) ?_
 refine wd (va x13) rfl rfl (fun _ hc => dv_load rfl (ld_slsA (sz := 3) (m := 3) (ys := [fl x13.x, fl x13.y, fl x13.z]) (off := 0) (hm_ps.keep (hKb.trans hc)) hx13 (fun _ => rfl) rfl rfl (Nat.le_of_ble_eq_true rfl) rfl)) ?_
 refine wd (va x5) rfl rfl (fun _ hc => dv_load rfl (ld_boxA (n := 3) ((hB _ hc).box 2 rfl) rfl rfl (Nat.le_of_ble_eq_true rfl) rfl)) ?_
 refine W_call (vs := [va x13, va x5]) rfl rfl rfl rfl rfl rfl rfl (LessVectors_ok x13 x5 _) ?_
 rintro _ H ⟨v14, rfl, rfl, hQ⟩
 have hM := hM.up hQ.keep
 refine ⟨hM.keep, ?_⟩
 refine W_call (vs := [.agg #[fl ((vsub x9 x5).x), fl ((vsub x9 x5).y), fl ((vsub x9 x5).z)], .agg #[fl ((vsub x13 x5).x), fl ((vsub x13 x5).y), fl ((vsub x13 x5).z)]]) rfl rfl rfl rfl rfl rfl rfl (CrossOf_ok (vsub x9 x5) (vsub x13 x5) _) ?_
 rintro _ H ⟨v15, rfl, rfl, hQ⟩
 have hM := hM.up hQ.keep
 refine ⟨hM.keep, ?_⟩
 have hS := hR _ _ hM
 refine D_store (i := 1) (yv := .agg #[fl ((vcross (vsub x9 x5) (vsub x13 x5)).x), fl ((vcross (vsub x9 x5) (vsub x13 x5)).y), fl ((vcross (vsub x9 x5) (vsub x13 x5)).z)]) (l' := [fl ((vcross (vsub x9 x5) (vsub x13 x5)).x), fl ((vcross (vsub x9 x5) (vsub x13 x5)).y), fl ((vcross (vsub x9 x5) (vsub x13 x5)).z)]) hS rfl rfl rfl rfl rfl rfl rfl rfl rfl rfl rfl rfl rfl fun H hS => ?_
 refine th_norm ?_
 refine AWp_ret (?_)
 refine ret_of ?_
 refine readsRes_of (rs := [.cell 4 41]) (vs := [.agg #[fl ((vcross (vsub x9 x5) (vsub x13 x5)).x), fl ((vcross (vsub x9 x5) (vsub x13 x5)).y), fl ((vcross (vsub x9 x5) (vsub x13 x5)).z)]]) rfl (re_cons (re_cell (p := pt b2 0) rfl (ld_boxA (n := 3) (hS.box 1 rfl) rfl rfl (Nat.le_of_ble_eq_true rfl) rfl)) (re_nil)) rfl ?_
 refine ⟨(vcross (vsub x9 x5) (vsub x13 x5)), ?_, rfl, .base hS.keep⟩
 · simp only [normalD, gD 0 hx3, at3_of hx5, gD 0 hx7, at3_of hx9, gD 0 hx11, at3_of hx13] <;> first | assumption | omega
theorem bendOf_ok (m : LM) (h_a : Option Addr) (h_n h_c : Nat) (h : List (Int)) (H : AH) (hm : m.ok H) (hh : VS H encI h_a h_n h) (hh0 : hinP m.ps.length h) : ACalls Tryz.prog 128 [mva m, sv h_a h_n h_c] H
  (fun r H' => ∃ (v_ : V3), bentD m.ps h = v_ ∧ r = va v_ ∧ SepL H [] H') := by
 refine ACalls_of Tryz.func128 rfl (Nat.le_of_ble_eq_true rfl) ?_
 obtain ⟨H0, hH0⟩ : ∃ H0, H0 = H := ⟨_, rfl⟩
 have hS : SepL H0 [] H := hH0 ▸ SepL.refl H
 subst hH0
 obtain ⟨⟨hm_ps, hm_pn, hm_pb⟩, hm_ts, hm_tn, hm_tb⟩ := id hm
 obtain ⟨hh_s, hh_n, hh_b⟩ := id hh
 have hl4 := hh0.1
 refine AWp_seq ?_
 refine AWp_E rfl ?_
 refine S_box (l := [sv m.pa m.pn m.pc, sv m.ta m.tn m.tc]) hS rfl rfl rfl rfl rfl fun b1 H hS => ?_
 refine S_box (l := [fl 0, fl 0, fl 0]) hS rfl rfl rfl rfl rfl fun b2 H hS => ?_
 refine E_nil ?_
 refine th_norm ?_
 refine AWp_seq ?_
 refine AWp_E rfl ?_
 refine ed (pt b1 0) rfl rfl (dv_fieldAddr rfl rfl) ?_
 refine ed (sv m.pa m.pn m.pc) rfl rfl (dv_load rfl (ld_box (hS.box 0 rfl) rfl rfl rfl)) ?_
 refine ed (sv m.pa m.pn m.pc) rfl rfl (dv_assign rfl) ?_
 refine E_nil ?_
 refine th_norm ?_
 refine AWp_seq ?_
 have hR := hS.pushes
 have hKb := hS.keep
 have hB := fun Hc (hc : Keep _ Hc) => hR [] Hc (.base hc)
 refine AWp_D0 rfl (by decide +kernel) fun hM => ?_
 refine wd (sv m.pa m.pn m.pc) rfl rfl (fun _ hc => dv_move rfl) ?_
 refine wd (sv h_a h_n h_c) rfl rfl (fun _ hc => dv_move rfl) ?_
 obtain ⟨x3, hx3⟩ := get_el (xs := h) (i := 2) (by omega)
 have ht4 := hinP_get hh0 hx3
 refine wd (sp h_a (2 * 1)) rfl rfl (fun _ hc => dv_indexAddr (a := sv h_a h_n h_c) (b := iv 2) rfl rfl (ix_sls (n := h_n) (i := 2) (hh_s.keep (hKb.trans hc)) hx3 rfl rfl rfl (by omega))) ?_
 refine wd (iv x3) rfl rfl (fun _ hc => dv_load rfl (ld_sls (sz := 1) (off := 0) (hh_s.keep (hKb.trans hc)) hx3 (fun _ => rfl) rfl rfl rfl)) ?_
 obtain ⟨x5, hx5⟩ := get_el (xs := m.ps) (i := (x3).toNat) (by omega)
 refine wd (sp m.pa (((x3).toNat) * 3)) rfl rfl (fun _ hc => dv_indexAddr (a := sv m.pa m.pn m.pc) (b := iv x3) rfl rfl (ix_sls (n := m.pn) (i := ((x3).toNat)) (hm_ps.keep (hKb.trans hc)) hx5 rfl rfl (by omega) (by omega))) ?_
 refine wd (va x5) rfl rfl (fun _ hc => dv_load rfl (ld_slsA (sz := 3) (m := 3) (ys := [fl x5.x, fl x5.y, fl x5.z]) (off := 0) (hm_ps.keep (hKb.trans hc)) hx5 (fun _ => rfl) rfl rfl (Nat.le_of_ble_eq_true rfl) rfl)) ?_
 refine wd (sv m.pa m.pn m.pc) rfl rfl (fun _ hc => dv_move rfl) ?_
 refine wd (sv h_a h_n h_c) rfl rfl (fun _ hc => dv_move rfl) ?_
 obtain ⟨x6, hx6⟩ := get_el (xs := h) (i := 3) (by omega)
 have ht7 := hinP_get hh0 hx6
 refine wd (sp h_a (3 * 1)) rfl rfl (fun _ hc => dv_indexAddr (a := sv h_a h_n h_c) (b := iv 3) rfl rfl (ix_sls (n := h_n) (i := 3) (hh_s.keep (hKb.trans hc)) hx6 rfl rfl rfl (by omega))) ?_
 refine wd (iv x6) rfl rfl (fun _ hc => dv_load rfl (ld_sls (sz := 1) (off := 0) (hh_s.keep (hKb.trans hc)) hx6 (fun _ => rfl) rfl rfl rfl)) ?_
 obtain ⟨x8, hx8⟩ := get_el (xs := m.ps) (i := (x6).toNat) (by omega)
 refine wd (sp m.pa (((x6).toNat) * 3)) rfl rfl (fun _ hc => dv_indexAddr (a := sv m.pa m.pn m.pc) (b := iv x6) rfl rfl (ix_sls (n := m.pn) (i := ((x6).toNat)) (hm_ps.keep (hKb.trans hc)) hx8 rfl rfl (by omega) (by omega))) ?_
 refine wd (va x8) rfl rfl (fun _ hc => dv_load rfl (ld_slsA (sz := 3) (m := 3) (ys := [fl x8.x, fl x8.y, fl x8.z]) (off := 0) (hm_ps.keep (hKb.trans hc)) hx8 (fun _ => rfl) rfl rfl (Nat.le_of_ble_eq_true rfl) rfl)) ?_
 refine W_call (vs := [va x5, va x8]) rfl rfl rfl rfl rfl rfl rfl (AddVectors_ok x5 x8 _) ?_
 rintro _ H ⟨v9, rfl, rfl, hQ⟩
 have hM := hM.up hQ.keep
 refine ⟨hM.keep, ?_⟩
 refine wd (sv m.pa m.pn m.pc) rfl rfl (fun _ hc => dv_move rfl) ?_
 refine wd (sv h_a h_n h_c) rfl rfl (fun _ hc => dv_move rfl) ?_
 obtain ⟨x10, hx10⟩ := get_el (xs := h) (i := 0) (by omega)
 have ht11 := hinP_get hh0 hx10
 refine wd (sp h_a (0 * 1)) rfl rfl (fun _ hc => dv_indexAddr (a := sv h_a h_n h_c) (b := iv 0) rfl rfl (ix_sls (n := h_n) (i := 0) (hh_s.keep (hKb.trans hc)) hx10 rfl rfl rfl (by omega))) ?_
 refine wd (iv x10) rfl rfl (fun _ hc => dv_load rfl (ld_sls (sz := 1) (off := 0) (hh_s.keep (hKb.trans hc)) hx10 (fun _ => rfl) rfl rfl rfl)) ?_
 obtain ⟨x12, hx12⟩ := get_el (xs := m.ps) (i := (x10).toNat) (by omega)
 refine wd (sp m.pa (((x10).toNat) * 3)) rfl rfl (fun _ hc => dv_indexAddr (a := sv m.pa m.pn m.pc) (b := iv x10) rfl rfl (ix_sls (n := m.pn) (i := ((x10).toNat)) (hm_ps.keep (hKb.trans hc)) hx12 rfl rfl (by omega) (by omega))) ?_
 refine wd (va x12) rfl rfl (fun _ hc => dv_load rfl (ld_slsA (sz := 3) (m := 3) (ys := [fl x12.x, fl x12.y, fl x12.z]) (off := 0) (hm_ps.keep (hKb.trans hc)) hx12 (fun _ => rfl) rfl rfl (Nat.le_of_ble_eq_true rfl) rfl)) ?_
 refine wd (sv m.pa m.pn m.pc) rfl rfl (fun _ hc => dv_move rfl) ?_
 refine wd (sv h_a h_n h_c) rfl rfl (fun _ hc => dv_move rfl) ?_
 obtain ⟨x13, hx13⟩ := get_el (xs := h) (i := 1) (by omega)
 have ht14 := hinP_get hh0 hx13
 refine wd (sp h_a (1 * 1)) rfl rfl (fun _ hc => dv_indexAddr (a := sv h_a h_n h_c) (b := iv 1) rfl rfl (ix_sls (n := h_n) (i := 1) (hh_s.keep (hKb.trans hc)) hx13 rfl rfl rfl (by omega))) ?_
 refine wd (iv x13) rfl rfl (fun _ hc => dv_load rfl (ld_sls (sz := 1) (off := 0) (hh_s.keep (hKb.trans hc)) hx13 (fun _ => rfl) rfl rfl rfl)) ?_
 obtain ⟨x15, hx15⟩ := get_el (xs := m.ps) (i := (x13).toNat) (by omega)
 refine wd (sp m.pa (((x13).toNat) * 3)) rfl rfl (fun _ hc => dv_indexAddr (a := sv m.pa m.pn m.pc) (b := iv x13) rfl rfl (ix_sls (n := m.pn) (i := ((x13).toNat)) (hm_ps.keep (hKb.trans hc)) hx15 rfl rfl (by omega) (by omega))) ?_
 refine wd (va x15) rfl rfl (fun _ hc => dv_load rfl (ld_slsA (sz := 3) (m := 3) (ys := [fl x15.x, fl x15.y, fl x15.z]) (off := 0) (hm_ps.keep (hKb.trans hc)) hx15 (fun _ => rfl) rfl rfl (Nat.le_of_ble_eq_true rfl) rfl)) ?_
 refine W_call (vs := [va x12, va x15]) rfl rfl rfl rfl rfl rfl rfl (AddVectors_ok x12 x15 _) ?_
 rintro _ H ⟨v16, rfl, rfl, hQ⟩
 have hM := hM.up hQ.keep
 refine ⟨hM.keep, ?_⟩
 refine W_call (vs := [.agg #[fl ((vadd x5 x8).x), fl ((vadd x5 x8).y), fl ((vadd x5 x8).z)], .agg #[fl ((vadd x12 x15).x), fl ((vadd x12 x15).y), fl ((vadd x12 x15).z)]]) rfl rfl rfl rfl rfl rfl rfl (LessVectors_ok (vadd x5 x8) (vadd x12 x15) _) ?_
 rintro _ H ⟨v17, rfl, rfl, hQ⟩
 have hM := hM.up hQ.keep
 refine ⟨hM.keep, ?_⟩
 have hS := hR _ _ hM
 refine D_store (i := 1) (yv := .agg #[fl ((vsub (vadd x5 x8) (vadd x12 x15)).x), fl ((vsub (vadd x5 x8) (vadd x12 x15)).y), fl ((vsub (vadd x5 x8) (vadd x12 x15)).z)]) (l' := [fl ((vsub (vadd x5 x8) (vadd x12 x15)).x), fl ((vsub (vadd x5 x8) (vadd x12 x15)).y), fl ((vsub (vadd x5 x8) (vadd x12 x15)).z)]) hS rfl rfl rfl rfl rfl rfl rfl rfl rfl rfl rfl rfl rfl fun H hS => ?_
 refine th_norm ?_
 refine AWp_ret (?_)
 refine ret_of ?_
 refine readsRes_of (rs := [.cell 4 41]) (vs := [.agg #[fl ((vsub (vadd x5 x8) (vadd x12 x15)).x), fl ((vsub (vadd x5 x8) (vadd x12 x15)).y), fl ((vsub (vadd x5 x8) (vadd x12 x15)).z)]]) rfl (re_cons (re_cell (p := pt b2 0) rfl (ld_boxA (n := 3) (hS.box 1 rfl) rfl rfl (Nat.le_of_ble_eq_true rfl) rfl)) (re_nil)) rfl ?_
 refine ⟨(vsub (vadd x5 x8) (vadd x12 x15)), ?_, rfl, .base hS.keep⟩
 · simp only [bentD, gD 0 hx3, at3_of hx5, gD 0 hx6, at3_of hx8, gD 0 hx10, at3_of hx12, gD 0 hx13, at3_of hx15] <;> first | assumption | omega
theorem copyMesh_ok (m : LM) (H : AH) (hm : m.ok H) : ACalls Tryz.prog 130 [mva m] H
  (fun r H' => ∃ (b_ : LM), b_.d = m.d ∧ (b_.ps.length = b_.pn ∧ b_.ts.length = b_.tn) ∧ (∀ q ∈ b_.ts, q.xs.length ≤ 1048576) ∧ r = mva b_ ∧ SepL H [sl encV 41 3 b_.pa b_.pc b_.ps, sl encR 53 1 b_.ta b_.tc b_.ts, rowsE 2 b_.ts] H') := by
 refine ACalls_of Tryz.func130 rfl (Nat.le_of_ble_eq_true rfl) ?_
 obtain ⟨H0, hH0⟩ : ∃ H0, H0 = H := ⟨_, rfl⟩
 have hS : SepL H0 [] H := hH0 ▸ SepL.refl H
 subst hH0
 obtain ⟨⟨hm_ps, hm_pn, hm_pb⟩, hm_ts, hm_tn, hm_tb⟩ := id hm
 refine AWp_seq ?_
 refine AWp_E rfl ?_
 refine S_box (l := [sv m.pa m.pn m.pc, sv m.ta m.tn m.tc]) hS rfl rfl rfl rfl rfl fun b1 H hS => ?_
 refine S_box (l := [sv none 0 0, sv none 0 0]) hS rfl rfl rfl rfl rfl fun b2 H hS => ?_
 refine E_nil ?_
 refine th_norm ?_
 refine AWp_seq ?_
 refine AWp_E rfl ?_
 refine S_lit (sz := 3) (enc := encV) (xs := ([] : List V3)) (n := 0) hS rfl rfl rfl rfl rfl rfl rfl rfl fun a3 H hS => ?_
 refine ed (pt b1 0) rfl rfl (dv_fieldAddr rfl rfl) ?_
 refine ed (sv m.pa m.pn m.pc) rfl rfl (dv_load rfl (ld_box (hS.box 0 rfl) rfl rfl rfl)) ?_
 refine S_append (k := 2) (bytes := 12) (enc := encV) (xs := ([] : List V3)) (ys := m.ps) hS rfl rfl rfl rfl rfl rfl rfl rfl rfl rfl (fun _ => rfl) (fun _ => rfl) rfl rfl rfl hm_pn (hm_ps.keep hS.keep) (by omega) (by omega) fun a4 c5 x6 H hx7 hn8 hS => ?_
 refine ed (.agg #[sv a4 x6.length c5, sv none 0 0]) rfl rfl (dv_buildZ (vs := [(0, sv a4 x6.length c5)]) rfl rfl rfl rfl rfl rfl) ?_
 refine S_box (l := [sv none 0 0, sv none 0 0]) hS rfl rfl rfl rfl rfl fun b9 H hS => ?_
 refine S_store (i := 3) (yv := .agg #[sv a4 x6.length c5, sv none 0 0]) (l' := [sv a4 x6.length c5, sv none 0 0]) hS rfl rfl rfl rfl rfl rfl rfl rfl rfl rfl rfl rfl fun H hS => ?_
 refine E_nil ?_
 refine th_norm ?_
 refine AWp_seq ?_
 refine AWp_seq ?_
 refine AWp_E rfl ?_
 refine ed (pt b1 1) rfl rfl (dv_fieldAddr rfl rfl) ?_
 refine ed (sv m.ta m.tn m.tc) rfl rfl (dv_load rfl (ld_box (hS.box 0 rfl) rfl rfl rfl)) ?_
 refine ed (iv ((m.tn : Nat) : Int)) rfl rfl (dv_len rfl rfl rfl rfl rfl) ?_
 refine ed (iv 0) rfl rfl (dv_move rfl) ?_
 refine E_nil ?_
 refine th_norm ?_
 refine AWp_block ?_
 have hS := hS.zero (rowE1 2)
 have hS := hS.nil encR 53 1
 obtain ⟨I10, hI10⟩ : ∃ I : Nat → Env → AH → Prop, ∀ m_ e_ Hl, I m_ e_ Hl = (∃ (i : Nat) (wa : Option Addr) (wc : Nat) (w : List (Row)), m_ = m.tn - i ∧ AllE [(0, mva m), (1, pt b1 0), (2, pt b2 0), (3, pt b9 0), (6, sv a3 0 0), (7, pt b1 0), (8, sv m.pa m.pn m.pc), (9, sv a4 x6.length c5), (10, .agg #[sv a4 x6.length c5, sv none 0 0]), (11, pt b1 1), (12, sv m.ta m.tn m.tc), (13, iv ((m.tn : Nat) : Int)), (14, iv ((i : Nat) : Int))] e_ ∧ SepL H0 [box b1 [sv m.pa m.pn m.pc, sv m.ta m.tn m.tc] 39, box b2 [sv none 0 0, sv none 0 0] 39, sl encV 41 3 a4 c5 x6, box b9 [sv a4 x6.length c5, sv wa w.length wc] 39, rowsE 2 w, sl encR 53 1 wa wc w] Hl ∧ (i ≤ m.tn) ∧ (rxs w = (rxs m.ts).take i) ∧ (∀ q ∈ w, q.xs.length ≤ 1048576)) := ⟨_, fun _ _ _ => rfl⟩
 refine AWp_loop I10 (m.tn - (0)) ?_ ?_
 ·
  rw [hI10]
  refine ⟨0, none, 0, ([] : List Row), rfl, (all_c rfl (all_c rfl (all_c rfl (all_c rfl (all_c rfl (all_c rfl (all_c rfl (all_c rfl (all_c rfl (all_c rfl (all_c rfl (all_c rfl (all_c rfl all_n))))))))))))), hS, ?_, ?_, ?_⟩
  · omega
  · rfl
  · simp
 ·
  intro m11 _ H hl12
  rw [hI10] at hl12
  obtain ⟨i, wa, wc, w, hm13, he14, hS, hi, hw, hwl⟩ := hl12
  obtain ⟨e15, rfl⟩ := he14.ex
  have hwn : w.length = i := by have h1 := congrArg List.length hw; rw [rxs, List.length_map, List.length_take, rxs, List.length_map] at h1; omega
  refine AWp_seq ?_
  refine AWp_E rfl ?_
  rcases Decidable.em (((i : Nat) : Int) < ((m.tn : Nat) : Int)) with hc16 | hc16
  ·
   refine ed yes rfl rfl (dv_bin rfl rfl (bi_lss_t hc16)) ?_
   refine E_nil ?_
   refine th_norm ?_
   refine AWp_seq ?_
   refine AWp_cond (t := true) rfl (fun _ => ?_) nofun
   refine AWp_skip ?_
   refine th_norm ?_
   refine AWp_seq ?_
   refine AWp_block ?_
   refine AWp_seq ?_
   refine AWp_E rfl ?_
   obtain ⟨x17, hx17⟩ := get_el (xs := m.ts) (i := i) (by omega)
   have hv18 := hm_ts.el hx17
   have hv18l := hv18.2
   refine ed (sp m.ta (i * 1)) rfl rfl (dv_indexAddr (a := sv m.ta m.tn m.tc) (b := iv ((i : Nat) : Int)) rfl rfl (ix_sls (n := m.tn) (i := i) (hm_ts.1.keep hS.keep) hx17 rfl rfl rfl (by omega))) ?_
   refine ed (sv x17.a x17.xs.length x17.c) rfl rfl (dv_load rfl (ld_sls (sz := 1) (off := 0) (hm_ts.1.keep hS.keep) hx17 (fun _ => rfl) rfl rfl rfl)) ?_
   refine ed (sv x17.a x17.xs.length x17.c) rfl rfl (dv_assign rfl) ?_
   refine E_nil ?_
   refine th_norm ?_
   obtain ⟨Hx, hK, hKx, hM, hR⟩ := hS.split [5] rfl
   have hB := fun Hc (hc : Keep Hx Hc) => hR [] Hc (.base hc)
   refine AWp_D hKx rfl (by decide +kernel) ?_
   refine wd (pt b9 1) rfl rfl (fun _ hc => dv_fieldAddr rfl rfl) ?_
   refine wd (sv wa w.length wc) rfl rfl (fun _ hc => dv_load rfl (ld_box ((hB _ hc).box 3 rfl) rfl rfl rfl)) ?_
   refine D_lit (sz := 1) (enc := encI) (xs := ([] : List Int)) (n := 0) hM rfl rfl rfl rfl rfl rfl rfl rfl fun a19 H hM => ?_
   refine wd (sv x17.a x17.xs.length x17.c) rfl rfl (fun _ hc => dv_move rfl) ?_
   refine D_append (k := 1) (bytes := 8) (enc := encI) (xs := ([] : List Int)) (ys := x17.xs) hM rfl rfl rfl rfl rfl rfl rfl rfl rfl rfl (fun _ => rfl) (fun _ => rfl) rfl rfl rfl rfl (hv18.1.keep (hK.trans hM.keep)) (by omega) (by omega) fun a20 c21 x22 H hx23 hn24 hM => ?_
   refine D_lit (sz := 1) (enc := encR) (xs := ([(⟨a20, c21, x22⟩ : Row)] : List (Row))) (n := 1) hM rfl rfl rfl rfl rfl rfl rfl rfl fun a25 H hM => ?_
   refine D_append (k := 0) (bytes := 24) (enc := encR) (xs := w) (ys := ([(⟨a20, c21, x22⟩ : Row)] : List (Row))) hM rfl rfl rfl rfl rfl rfl rfl rfl rfl rfl (fun _ => rfl) (fun _ => rfl) rfl rfl rfl rfl ((hR _ _ hM).sls 7 rfl) (by omega) (by omega) fun a26 c27 x28 H hx29 hn30 hM => ?_
   refine wd (pt b9 1) rfl rfl (fun _ hc => dv_fieldAddr rfl rfl) ?_
   have hS := hR _ _ hM
   refine D_store (i := 3) (yv := sv a26 x28.length c27) (l' := [sv a4 x6.length c5, sv a26 x28.length c27]) hS rfl rfl rfl rfl rfl rfl rfl rfl rfl rfl rfl rfl rfl fun H hS => ?_
   refine bl_norm ?_
   refine th_norm ?_
   refine AWp_E rfl ?_
   refine ed (iv ((i + 1 : Nat) : Int)) rfl rfl (dv_bin rfl rfl (bi_add (by omega))) ?_
   refine ed (iv ((i + 1 : Nat) : Int)) rfl rfl (dv_move rfl) ?_
   refine E_nil ?_
   have hS := hS.join (f := rowE1 2) (q := (⟨a20, c21, x22⟩ : Row)) 4 6 rfl rfl rfl
   rw [← hx29] at hS
   have hlj : ∀ q ∈ x28, q.xs.length ≤ 1048576 := by
     rw [hx29]
     intro q hq
     rcases List.mem_append.1 hq with hq | hq
     · exact hwl q hq
     · rw [List.mem_singleton.1 hq]; dsimp only; omega
   refine loop_next (I := I10) (m.tn - (i + 1)) (by rw [hm13]; omega) ?_
   rw [hI10]
   refine ⟨i + 1, a26, c27, x28, rfl, (all_c rfl (all_c rfl (all_c rfl (all_c rfl (all_c rfl (all_c rfl (all_c rfl (all_c rfl (all_c rfl (all_c rfl (all_c rfl (all_c rfl (all_c rfl all_n))))))))))))), (hS.pick [0, 1, 2, 3, 6, 4] rfl), ?_, ?_, ?_⟩
   · omega
   · rw [hx29, rxs, List.map_append, ← rxs, hw, take_step (map_get (f := Row.xs) hx17)]; simp [*]
   · exact hlj
  ·
   refine ed no rfl rfl (dv_bin rfl rfl (bi_lss_f hc16)) ?_
   refine E_nil ?_
   refine th_norm ?_
   refine AWp_seq ?_
   refine AWp_cond (t := false) rfl nofun (fun _ => ?_)
   refine AWp_exit (th_exit (th_exit (bl_exit (?_))))
   refine th_norm ?_
   refine AWp_seq ?_
   refine AWp_E rfl ?_
   refine ed (.agg #[sv a4 x6.length c5, sv wa w.length wc]) rfl rfl (dv_load rfl (ld_boxA (n := 2) (hS.box 3 rfl) rfl rfl (Nat.le_of_ble_eq_true rfl) rfl)) ?_
   refine S_store (i := 1) (yv := .agg #[sv a4 x6.length c5, sv wa w.length wc]) (l' := [sv a4 x6.length c5, sv wa w.length wc]) hS rfl rfl rfl rfl rfl rfl rfl rfl rfl rfl rfl rfl fun H hS => ?_
   refine E_nil ?_
   refine th_norm ?_
   refine AWp_ret (?_)
   refine ret_of ?_
   refine readsRes_of (rs := [.cell 2 39]) (vs := [.agg #[sv a4 x6.length c5, sv wa w.length wc]]) rfl (re_cons (re_cell (p := pt b2 0) rfl (ld_boxA (n := 2) (hS.box 1 rfl) rfl rfl (Nat.le_of_ble_eq_true rfl) rfl)) (re_nil)) rfl ?_
   refine ⟨⟨a4, c5, x6.length, x6, wa, wc, w.length, w⟩, ?_, ?_, ?_, rfl, hS.pick [2, 5, 4] rfl⟩
   · have hti : (rxs m.ts).take i = rxs m.ts := List.take_of_length_le (by rw [rxs, List.length_map]; omega)
     rw [hti] at hw
     simp [LM.d, hx7, hw]
   · exact ⟨rfl, rfl⟩
   · exact hwl
theorem copyBody_ok (b : LB) (H : AH) (hb : b.ok H) : ACalls Tryz.prog 96 [bva b] H
  (fun r H' => ∃ (b_ : LB), b_.d = b.d ∧ (b_.m.ps.length = b_.m.pn ∧ b_.m.ts.length = b_.m.tn) ∧ (∀ q ∈ b_.m.ts, q.xs.length ≤ 1048576) ∧ (b_.ss.length = b_.sn ∧ b_.ws.length = b_.wn) ∧ r = bva b_ ∧ SepL H [sl encV 41 3 b_.m.pa b_.m.pc b_.m.ps, sl encR 53 1 b_.m.ta b_.m.tc b_.m.ts, rowsE 2 b_.m.ts, sl encS 116 4 b_.sa b_.sc b_.ss, sl encF 27 1 b_.wa b_.wc b_.ws] H') := by
 refine ACalls_of Tryz.func96 rfl (Nat.le_of_ble_eq_true rfl) ?_
 obtain ⟨H0, hH0⟩ : ∃ H0, H0 = H := ⟨_, rfl⟩
 have hS : SepL H0 [] H := hH0 ▸ SepL.refl H
 subst hH0
 obtain ⟨⟨hb_1_ps, hb_1_pn, hb_1_pb⟩, hb_1_ts, hb_1_tn, hb_1_tb⟩ := id hb.1
 obtain ⟨⟨hb_ss, hb_sn, hb_sb⟩, hb_ws, hb_wn, hb_wb⟩ := hb.2
 refine AWp_seq ?_
 refine AWp_E rfl ?_
 refine S_box (l := [sv b.m.pa b.m.pn b.m.pc, sv b.m.ta b.m.tn b.m.tc, sv b.sa b.sn b.sc, fl b.film, fl b.bend, sv b.wa b.wn b.wc, fl b.fall.x, fl b.fall.y, fl b.fall.z]) hS rfl rfl rfl rfl rfl fun b1 H hS => ?_
 refine S_box (l := [sv none 0 0, sv none 0 0, sv none 0 0, fl 0, fl 0, sv none 0 0, fl 0, fl 0, fl 0]) hS rfl rfl rfl rfl rfl fun b2 H hS => ?_
 refine E_nil ?_
 refine th_norm ?_
 refine AWp_seq ?_
 refine AWp_E rfl ?_
 refine ed (pt b1 0) rfl rfl (dv_fieldAddr rfl rfl) ?_
 refine ed (mva b.m) rfl rfl (dv_load rfl (ld_boxA (n := 2) (hS.box 0 rfl) rfl rfl (Nat.le_of_ble_eq_true rfl) rfl)) ?_
 refine E_call (vs := [mva b.m]) rfl rfl rfl rfl rfl rfl rfl (copyMesh_ok b.m _ (hb.1.keep hS.keep)) ?_
 rintro _ H ⟨b3, h4, h5, h6, rfl, hQ⟩
 have hdlh4 : b3.ps.length = b.m.ps.length := congrArg (fun d : Msh => d.ps.length) h4
 have hdth4 : (rxs b3.ts).length = (rxs b.m.ts).length := congrArg (fun d : Msh => d.ts.length) h4
 simp only [rxs, List.length_map] at hdth4
 have hS := hS.push hQ
 refine ed (pt b1 0) rfl rfl (dv_fieldAddr rfl rfl) ?_
 refine S_store (i := 0) (yv := mva b3) (l' := [sv b3.pa b3.pn b3.pc, sv b3.ta b3.tn b3.tc, sv b.sa b.sn b.sc, fl b.film, fl b.bend, sv b.wa b.wn b.wc, fl b.fall.x, fl b.fall.y, fl b.fall.z]) hS rfl rfl rfl rfl rfl rfl rfl rfl rfl rfl rfl rfl fun H hS => ?_
 refine E_nil ?_
 refine th_norm ?_
 refine AWp_seq ?_
 refine AWp_E rfl ?_
 refine S_lit (sz := 4) (enc := encS) (xs := ([] : List Spr)) (n := 0) hS rfl rfl rfl rfl rfl rfl rfl rfl fun a7 H hS => ?_
 refine ed (pt b1 2) rfl rfl (dv_fieldAddr rfl rfl) ?_
 refine ed (sv b.sa b.sn b.sc) rfl rfl (dv_load rfl (ld_box (hS.box 0 rfl) rfl rfl rfl)) ?_
 refine S_append (k := 5) (bytes := 24) (enc := encS) (xs := ([] : List Spr)) (ys := b.ss) hS rfl rfl rfl rfl rfl rfl rfl rfl rfl rfl (fun _ => rfl) (fun _ => rfl) rfl rfl rfl hb_sn (hb_ss.keep hS.keep) (by omega) (by omega) fun a8 c9 x10 H hx11 hn12 hS => ?_
 refine ed (pt b1 2) rfl rfl (dv_fieldAddr rfl rfl) ?_
 refine S_store (i := 0) (yv := sv a8 x10.length c9) (l' := [sv b3.pa b3.pn b3.pc, sv b3.ta b3.tn b3.tc, sv a8 x10.length c9, fl b.film, fl b.bend, sv b.wa b.wn b.wc, fl b.fall.x, fl b.fall.y, fl b.fall.z]) hS rfl rfl rfl rfl rfl rfl rfl rfl rfl rfl rfl rfl fun H hS => ?_
 refine E_nil ?_
 refine th_norm ?_
 refine AWp_seq ?_
 refine AWp_E rfl ?_
 refine S_lit (sz := 1) (enc := encF) (xs := ([] : List Nat)) (n := 0) hS rfl rfl rfl rfl rfl rfl rfl rfl fun a13 H hS => ?_
 refine ed (pt b1 5) rfl rfl (dv_fieldAddr rfl rfl) ?_
 refine ed (sv b.wa b.wn b.wc) rfl rfl (dv_load rfl (ld_box (hS.box 0 rfl) rfl rfl rfl)) ?_
 refine S_append (k := 6) (bytes := 4) (enc := encF) (xs := ([] : List Nat)) (ys := b.ws) hS rfl rfl rfl rfl rfl rfl rfl rfl rfl rfl (fun _ => rfl) (fun _ => rfl) rfl rfl rfl hb_wn (hb_ws.keep hS.keep) (by omega) (by omega) fun a14 c15 x16 H hx17 hn18 hS => ?_
 refine ed (pt b1 5) rfl rfl (dv_fieldAddr rfl rfl) ?_
 refine S_store (i := 0) (yv := sv a14 x16.length c15) (l' := [sv b3.pa b3.pn b3.pc, sv b3.ta b3.tn b3.tc, sv a8 x10.length c9, fl b.film, fl b.bend, sv a14 x16.length c15, fl b.fall.x, fl b.fall.y, fl b.fall.z]) hS rfl rfl rfl rfl rfl rfl rfl rfl rfl rfl rfl rfl fun H hS => ?_
 refine E_nil ?_
 refine th_norm ?_
 refine AWp_seq ?_
 refine AWp_E rfl ?_
 refine ed (.agg #[sv b3.pa b3.pn b3.pc, sv b3.ta b3.tn b3.tc, sv a8 x10.length c9, fl b.film, fl b.bend, sv a14 x16.length c15, fl b.fall.x, fl b.fall.y, fl b.fall.z]) rfl rfl (dv_load rfl (ld_boxA (n := 9) (hS.box 0 rfl) rfl rfl (Nat.le_of_ble_eq_true rfl) rfl)) ?_
 refine S_store (i := 1) (yv := .agg #[sv b3.pa b3.pn b3.pc, sv b3.ta b3.tn b3.tc, sv a8 x10.length c9, fl b.film, fl b.bend, sv a14 x16.length c15, fl b.fall.x, fl b.fall.y, fl b.fall.z]) (l' := [sv b3.pa b3.pn b3.pc, sv b3.ta b3.tn b3.tc, sv a8 x10.length c9, fl b.film, fl b.bend, sv a14 x16.length c15, fl b.fall.x, fl b.fall.y, fl b.fall.z]) hS rfl rfl rfl rfl rfl rfl rfl rfl rfl rfl rfl rfl fun H hS => ?_
 refine E_nil ?_
 refine th_norm ?_
 refine AWp_ret (?_)
 refine ret_of ?_
 refine readsRes_of (rs := [.cell 2 43]) (vs := [.agg #[sv b3.pa b3.pn b3.pc, sv b3.ta b3.tn b3.tc, sv a8 x10.length c9, fl b.film, fl b.bend, sv a14 x16.length c15, fl b.fall.x, fl b.fall.y, fl b.fall.z]]) rfl (re_cons (re_cell (p := pt b2 0) rfl (ld_boxA (n := 9) (hS.box 1 rfl) rfl rfl (Nat.le_of_ble_eq_true rfl) rfl)) (re_nil)) rfl ?_
 refine ⟨⟨b3, a8, c9, x10.length, x10, b.film, b.bend, a14, c15, x16.length, x16, b.fall⟩, ?_, ?_, ?_, ?_, rfl, hS.pick [2, 3, 4, 5, 6] rfl⟩
 · simp_all [LB.d, LM.d]
 · simp_all
 · assumption
 · simp_all
theorem partsOf_ok (b : LB) (H : AH) (hb : b.ok H) (hb0 : Bod.ok b.d) : ACalls Tryz.prog 95 [bva b] H
  (fun r H' => ∃ (x_a : Option Addr), ∃ (x_n : Nat), ∃ (x_c : Nat), ∃ (x_ : List (Nat)), x_.length = 4 ∧ x_ = partsD b.d ∧ x_.length = x_n ∧ r = sv x_a x_n x_c ∧ SepL H [sl encF 27 1 x_a x_c x_] H') := by
 refine ACalls_of Tryz.func95 rfl (Nat.le_of_ble_eq_true rfl) ?_
 obtain ⟨H0, hH0⟩ : ∃ H0, H0 = H := ⟨_, rfl⟩
 have hS : SepL H0 [] H := hH0 ▸ SepL.refl H
 subst hH0
 obtain ⟨⟨hb_1_ps, hb_1_pn, hb_1_pb⟩, hb_1_ts, hb_1_tn, hb_1_tb⟩ := id hb.1
 obtain ⟨⟨hb_ss, hb_sn, hb_sb⟩, hb_ws, hb_wn, hb_wb⟩ := hb.2
 have hbm : meshP b.m.ps.length (rxs b.m.ts) := hb0.1
 have hbw : b.ws.length = b.m.ps.length := hb0.2.2.1
 have hbss : b.ss.length ≤ 200 := hb0.2.1
 have hbn : b.m.ps.length ≤ 64 := hbm.1
 have hhl := hinges_le b.m.ps.length (rxs b.m.ts) hbn
 refine AWp_seq ?_
 refine AWp_E rfl ?_
 refine S_box (l := [sv b.m.pa b.m.pn b.m.pc, sv b.m.ta b.m.tn b.m.tc, sv b.sa b.sn b.sc, fl b.film, fl b.bend, sv b.wa b.wn b.wc, fl b.fall.x, fl b.fall.y, fl b.fall.z]) hS rfl rfl rfl rfl rfl fun b1 H hS => ?_
 refine ed (sv none 0 0) rfl rfl (dv_assign rfl) ?_
 refine E_nil ?_
 refine th_norm ?_
 refine AWp_seq ?_
 refine AWp_E rfl ?_
 refine S_make (sz := 1) (enc := encF) (z := (0 : Nat)) hS rfl rfl rfl (dn_make (nb := 4) (n := 4) (zs := [fl 0]) rfl rfl rfl rfl rfl rfl rfl (by omega) (by omega)) rfl rfl (by unfold maxLen; omega) fun a2 x3 H hx4 hn5 hS => ?_
 refine ed (sv a2 4 4) rfl rfl (dv_assign rfl) ?_
 refine E_nil ?_
 refine th_norm ?_
 refine AWp_seq ?_
 refine AWp_seq ?_
 refine AWp_E rfl ?_
 refine ed (pt b1 2) rfl rfl (dv_fieldAddr rfl rfl) ?_
 refine ed (sv b.sa b.sn b.sc) rfl rfl (dv_load rfl (ld_box (hS.box 0 rfl) rfl rfl rfl)) ?_
 refine ed (iv ((b.sn : Nat) : Int)) rfl rfl (dv_len rfl rfl rfl rfl rfl) ?_
 refine ed (iv 0) rfl rfl (dv_move rfl) ?_
 refine E_nil ?_
 refine th_norm ?_
 refine AWp_block ?_
 obtain ⟨I6, hI6⟩ : ∃ I : Nat → Env → AH → Prop, ∀ m_ e_ Hl, I m_ e_ Hl = (∃ (i : Nat) (o : List (Nat)), m_ = b.sn - i ∧ AllE [(0, bva b), (1, pt b1 0), (2, sv none 0 0), (3, sv a2 4 4), (14, sv a2 4 4), (15, pt b1 2), (16, sv b.sa b.sn b.sc), (17, iv ((b.sn : Nat) : Int)), (18, iv ((i : Nat) : Int))] e_ ∧ SepL H0 [box b1 [sv b.m.pa b.m.pn b.m.pc, sv b.m.ta b.m.tn b.m.tc, sv b.sa b.sn b.sc, fl b.film, fl b.bend, sv b.wa b.wn b.wc, fl b.fall.x, fl b.fall.y, fl b.fall.z] 43, sl encF 27 1 a2 4 o] Hl ∧ o.length = 4 ∧ (i ≤ b.sn) ∧ (o = [iter (part0 b.d) 0 i, 0, 0, 0])) := ⟨_, fun _ _ _ => rfl⟩
 refine AWp_loop I6 (b.sn - (0)) ?_ ?_
 ·
  rw [hI6]
  refine ⟨0, x3, rfl, (all_c rfl (all_c rfl (all_c rfl (all_c rfl (all_c rfl (all_c rfl (all_c rfl (all_c rfl (all_c rfl all_n))))))))), hS, hn5, ?_, ?_⟩
  · omega
  · rw [hx4]; rfl
 ·
  intro m7 _ H hl8
  rw [hI6] at hl8
  obtain ⟨i, o, hm9, he10, hS, ho_n, hi, ho⟩ := hl8
  obtain ⟨e11, rfl⟩ := he10.ex
  refine AWp_seq ?_
  refine AWp_E rfl ?_
  rcases Decidable.em (((i : Nat) : Int) < ((b.sn : Nat) : Int)) with hc12 | hc12
  ·
   refine ed yes rfl rfl (dv_bin rfl rfl (bi_lss_t hc12)) ?_
   refine E_nil ?_
   refine th_norm ?_
   refine AWp_seq ?_
   refine AWp_cond (t := true) rfl (fun _ => ?_) nofun
   refine AWp_skip ?_
   refine th_norm ?_
   refine AWp_seq ?_
   refine AWp_block ?_
   refine AWp_seq ?_
   refine AWp_E rfl ?_
   obtain ⟨x13, hx13⟩ := get_el (xs := b.ss) (i := i) (by omega)
   have hsk : sprP b.m.ps.length x13 := hb0.2.2.2 _ (List.mem_of_getElem? hx13)
   have hsk2 := hsk
   unfold sprP inP at hsk2
   refine ed (sp b.sa (i * 4)) rfl rfl (dv_indexAddr (a := sv b.sa b.sn b.sc) (b := iv ((i : Nat) : Int)) rfl rfl (ix_sls (n := b.sn) (i := i) (hb_ss.keep hS.keep) hx13 rfl rfl rfl (by omega))) ?_
   refine ed (.agg #[iv x13.A, iv x13.B, fl x13.Long, fl x13.Stiff]) rfl rfl (dv_load rfl (ld_slsA (sz := 4) (m := 4) (ys := [iv x13.A, iv x13.B, fl x13.Long, fl x13.Stiff]) (off := 0) (hb_ss.keep hS.keep) hx13 (fun _ => rfl) rfl rfl (Nat.le_of_ble_eq_true rfl) rfl)) ?_
   refine S_box (l := [iv 0, iv 0, fl 0, fl 0]) hS rfl rfl rfl rfl rfl fun b14 H hS => ?_
   refine S_store (i := 2) (yv := .agg #[iv x13.A, iv x13.B, fl x13.Long, fl x13.Stiff]) (l' := [iv x13.A, iv x13.B, fl x13.Long, fl x13.Stiff]) hS rfl rfl rfl rfl rfl rfl rfl rfl rfl rfl rfl rfl fun H hS => ?_
   refine E_nil ?_
   refine th_norm ?_
   refine AWp_seq ?_
   have hR := hS.pushes
   have hKb := hS.keep
   have hB := fun Hc (hc : Keep _ Hc) => hR [] Hc (.base hc)
   refine AWp_D0 rfl (by decide +kernel) fun hM => ?_
   refine wd (bva b) rfl rfl (fun _ hc => dv_load rfl (ld_boxA (n := 9) ((hB _ hc).box 0 rfl) rfl rfl (Nat.le_of_ble_eq_true rfl) rfl)) ?_
   refine wd (.agg #[iv x13.A, iv x13.B, fl x13.Long, fl x13.Stiff]) rfl rfl (fun _ hc => dv_load rfl (ld_boxA (n := 4) ((hB _ hc).box 2 rfl) rfl rfl (Nat.le_of_ble_eq_true rfl) rfl)) ?_
   refine W_call (vs := [bva b, .agg #[iv x13.A, iv x13.B, fl x13.Long, fl x13.Stiff]]) rfl rfl rfl rfl rfl rfl rfl (alongSpring_ok b x13 _ (hb.keep (hKb.trans hM.keep)) (by first | assumption | omega | (simp only [*]; assumption) | (simp_all; done))) ?_
   rintro _ H ⟨v15, rfl, rfl, hQ⟩
   have hM := hM.up hQ.keep
   refine ⟨hM.keep, ?_⟩
   refine W_call (vs := [.agg #[fl ((alongD b.m.ps x13).x), fl ((alongD b.m.ps x13).y), fl ((alongD b.m.ps x13).z)]]) rfl rfl rfl rfl rfl rfl rfl (LongOf_ok (alongD b.m.ps x13) _) ?_
   rintro _ H ⟨v16, rfl, rfl, hQ⟩
   have hM := hM.up hQ.keep
   refine ⟨hM.keep, ?_⟩
   refine wd (pt b14 2) rfl rfl (fun _ hc => dv_fieldAddr rfl rfl) ?_
   refine wd (fl x13.Long) rfl rfl (fun _ hc => dv_load rfl (ld_box ((hB _ hc).box 2 rfl) rfl rfl rfl)) ?_
   refine wd (fl (fop .sub .f32 (vlong (alongD b.m.ps x13)) x13.Long)) rfl rfl (fun _ hc => dv_bin rfl rfl rfl) ?_
   refine wd (fl (fop .sub .f32 (vlong (alongD b.m.ps x13)) x13.Long)) rfl rfl (fun _ hc => dv_assign rfl) ?_
   have hS := hR _ _ hM
   refine W_nil ?_
   refine th_norm ?_
   have hR := hS.pushes
   have hKb := hS.keep
   have hB := fun Hc (hc : Keep _ Hc) => hR [] Hc (.base hc)
   refine AWp_D0 rfl (by decide +kernel) fun hM => ?_
   refine wd (sv a2 4 4) rfl rfl (fun _ hc => dv_move rfl) ?_
   obtain ⟨x17, hx17⟩ := get_el (xs := o) (i := 0) (by omega)
   refine wd (sp a2 (0 * 1)) rfl rfl (fun _ hc => dv_indexAddr (a := sv a2 4 4) (b := iv 0) rfl rfl (ix_sls (n := 4) (i := 0) ((hB _ hc).sls 1 rfl) hx17 rfl rfl rfl (by omega))) ?_
   refine wd (fl x17) rfl rfl (fun _ hc => dv_load rfl (ld_sls (sz := 1) (off := 0) ((hB _ hc).sls 1 rfl) hx17 (fun _ => rfl) rfl rfl rfl)) ?_
   refine wd (pt b14 3) rfl rfl (fun _ hc => dv_fieldAddr rfl rfl) ?_
   refine wd (fl x13.Stiff) rfl rfl (fun _ hc => dv_load rfl (ld_box ((hB _ hc).box 2 rfl) rfl rfl rfl)) ?_
   refine wd (fl (fop .mul .f32 1056964608 x13.Stiff)) rfl rfl (fun _ hc => dv_bin rfl rfl rfl) ?_
   refine wd (fl (fop .sub .f32 (vlong (alongD b.m.ps x13)) x13.Long)) rfl rfl (fun _ hc => dv_move rfl) ?_
   refine wd (fl (fop .sub .f32 (vlong (alongD b.m.ps x13)) x13.Long)) rfl rfl (fun _ hc => dv_move rfl) ?_
   refine wd (fl (fop .mul .f32 (fop .sub .f32 (vlong (alongD b.m.ps x13)) x13.Long) (fop .sub .f32 (vlong (alongD b.m.ps x13)) x13.Long))) rfl rfl (fun _ hc => dv_bin rfl rfl rfl) ?_
   refine wd (fl (fop .mul .f32 (fop .mul .f32 1056964608 x13.Stiff) (fop .mul .f32 (fop .sub .f32 (vlong (alongD b.m.ps x13)) x13.Long) (fop .sub .f32 (vlong (alongD b.m.ps x13)) x13.Long)))) rfl rfl (fun _ hc => dv_bin rfl rfl rfl) ?_
   refine wd (fl (fop .add .f32 x17 (fop .mul .f32 (fop .mul .f32 1056964608 x13.Stiff) (fop .mul .f32 (fop .sub .f32 (vlong (alongD b.m.ps x13)) x13.Long) (fop .sub .f32 (vlong (alongD b.m.ps x13)) x13.Long))))) rfl rfl (fun _ hc => dv_bin rfl rfl rfl) ?_
   refine wd (sp a2 (0 * 1)) rfl rfl (fun _ hc => dv_indexAddr (a := sv a2 4 4) (b := iv 0) rfl rfl (ix_sls (n := 4) (i := 0) ((hB _ hc).sls 1 rfl) hx17 rfl rfl rfl (by omega))) ?_
   have hS := hR _ _ hM
   refine D_storeS (k := 1) (i := 0) (z' := fop .add .f32 x17 (fop .mul .f32 (fop .mul .f32 1056964608 x13.Stiff) (fop .mul .f32 (fop .sub .f32 (vlong (alongD b.m.ps x13)) x13.Long) (fop .sub .f32 (vlong (alongD b.m.ps x13)) x13.Long)))) (off := 0) (yv := fl (fop .add .f32 x17 (fop .mul .f32 (fop .mul .f32 1056964608 x13.Stiff) (fop .mul .f32 (fop .sub .f32 (vlong (alongD b.m.ps x13)) x13.Long) (fop .sub .f32 (vlong (alongD b.m.ps x13)) x13.Long))))) hS rfl rfl rfl rfl rfl (fun _ => rfl) rfl rfl rfl hx17 rfl rfl rfl rfl fun H hS => ?_
   have hx18 := set_get (z := fop .add .f32 x17 (fop .mul .f32 (fop .mul .f32 1056964608 x13.Stiff) (fop .mul .f32 (fop .sub .f32 (vlong (alongD b.m.ps x13)) x13.Long) (fop .sub .f32 (vlong (alongD b.m.ps x13)) x13.Long)))) hx17
   refine bl_norm ?_
   refine th_norm ?_
   refine AWp_E rfl ?_
   refine ed (iv ((i + 1 : Nat) : Int)) rfl rfl (dv_bin rfl rfl (bi_add (by omega))) ?_
   refine ed (iv ((i + 1 : Nat) : Int)) rfl rfl (dv_move rfl) ?_
   refine E_nil ?_
   refine loop_next (I := I6) (b.sn - (i + 1)) (by rw [hm9]; omega) ?_
   rw [hI6]
   refine ⟨i + 1, o.set 0 (fop .add .f32 x17 (fop .mul .f32 (fop .mul .f32 1056964608 x13.Stiff) (fop .mul .f32 (fop .sub .f32 (vlong (alongD b.m.ps x13)) x13.Long) (fop .sub .f32 (vlong (alongD b.m.ps x13)) x13.Long)))), rfl, (all_c rfl (all_c rfl (all_c rfl (all_c rfl (all_c rfl (all_c rfl (all_c rfl (all_c rfl (all_c rfl all_n))))))))), (hS.pick [0, 1] rfl), (by rw [List.length_set]; exact ho_n), ?_, ?_⟩
   · omega
   · rw [ho] at hx17
     simp only [List.getElem?_cons_zero, List.getElem?_cons_succ, Option.some.injEq] at hx17
     subst hx17
     rw [ho]
     simp only [List.set_cons_zero, List.set_cons_succ, iter, part0, alongD, LB.d, LM.d, rxs, Msh.hinges, gD s0 hx13, gD 0 hx18] <;> first | rfl | (simp only [*]; done)
  ·
   refine ed no rfl rfl (dv_bin rfl rfl (bi_lss_f hc12)) ?_
   refine E_nil ?_
   refine th_norm ?_
   refine AWp_seq ?_
   refine AWp_cond (t := false) rfl nofun (fun _ => ?_)
   refine AWp_exit (th_exit (th_exit (bl_exit (?_))))
   refine th_norm ?_
   refine AWp_seq ?_
   refine AWp_seq ?_
   refine AWp_E rfl ?_
   refine ed (pt b1 0) rfl rfl (dv_fieldAddr rfl rfl) ?_
   refine ed (pt b1 1) rfl rfl (dv_fieldAddr rfl rfl) ?_
   refine ed (sv b.m.ta b.m.tn b.m.tc) rfl rfl (dv_load rfl (ld_box (hS.box 0 rfl) rfl rfl rfl)) ?_
   refine ed (iv ((b.m.tn : Nat) : Int)) rfl rfl (dv_len rfl rfl rfl rfl rfl) ?_
   refine ed (iv 0) rfl rfl (dv_move rfl) ?_
   refine E_nil ?_
   refine th_norm ?_
   refine AWp_block ?_
   obtain ⟨I19, hI19⟩ : ∃ I : Nat → Env → AH → Prop, ∀ m_ e_ Hl, I m_ e_ Hl = (∃ (j : Nat) (o : List (Nat)), m_ = b.m.tn - j ∧ AllE [(0, bva b), (1, pt b1 0), (2, sv none 0 0), (3, sv a2 4 4), (14, sv a2 4 4), (15, pt b1 2), (16, sv b.sa b.sn b.sc), (17, iv ((b.sn : Nat) : Int)), (18, iv ((i : Nat) : Int)), (19, no), (42, pt b1 0), (43, pt b1 1), (44, sv b.m.ta b.m.tn b.m.tc), (45, iv ((b.m.tn : Nat) : Int)), (46, iv ((j : Nat) : Int))] e_ ∧ SepL H0 [box b1 [sv b.m.pa b.m.pn b.m.pc, sv b.m.ta b.m.tn b.m.tc, sv b.sa b.sn b.sc, fl b.film, fl b.bend, sv b.wa b.wn b.wc, fl b.fall.x, fl b.fall.y, fl b.fall.z] 43, sl encF 27 1 a2 4 o] Hl ∧ o.length = 4 ∧ (j ≤ b.m.tn) ∧ (o = [iter (part0 b.d) 0 b.ss.length, iter (part1 b.d) 0 j, 0, 0])) := ⟨_, fun _ _ _ => rfl⟩
   refine AWp_loop I19 (b.m.tn - (0)) ?_ ?_
   ·
    rw [hI19]
    refine ⟨0, o, rfl, (all_c rfl (all_c rfl (all_c rfl (all_c rfl (all_c rfl (all_c rfl (all_c rfl (all_c rfl (all_c rfl (all_c rfl (all_c rfl (all_c rfl (all_c rfl (all_c rfl (all_c rfl all_n))))))))))))))), hS, ho_n, ?_, ?_⟩
    · omega
    · have hii : i = b.ss.length := by omega
      rw [ho, hii]; rfl
   ·
    intro m20 _ H hl21
    rw [hI19] at hl21
    obtain ⟨j, o, hm22, he23, hS, ho_n, hi, ho⟩ := hl21
    obtain ⟨e24, rfl⟩ := he23.ex
    refine AWp_seq ?_
    refine AWp_E rfl ?_
    rcases Decidable.em (((j : Nat) : Int) < ((b.m.tn : Nat) : Int)) with hc25 | hc25
    ·
     refine ed yes rfl rfl (dv_bin rfl rfl (bi_lss_t hc25)) ?_
     refine E_nil ?_
     refine th_norm ?_
     refine AWp_seq ?_
     refine AWp_cond (t := true) rfl (fun _ => ?_) nofun
     refine AWp_skip ?_
     refine th_norm ?_
     refine AWp_seq ?_
     refine AWp_block ?_
     refine AWp_seq ?_
     refine AWp_E rfl ?_
     obtain ⟨x26, hx26⟩ := get_el (xs := b.m.ts) (i := j) (by omega)
     have hv27 := hb_1_ts.el hx26
     have hv27l := hv27.2
     have htk := meshP_row hbm hx26
     have htl := htk.1
     refine ed (sp b.m.ta (j * 1)) rfl rfl (dv_indexAddr (a := sv b.m.ta b.m.tn b.m.tc) (b := iv ((j : Nat) : Int)) rfl rfl (ix_sls (n := b.m.tn) (i := j) (hb_1_ts.1.keep hS.keep) hx26 rfl rfl rfl (by omega))) ?_
     refine ed (sv x26.a x26.xs.length x26.c) rfl rfl (dv_load rfl (ld_sls (sz := 1) (off := 0) (hb_1_ts.1.keep hS.keep) hx26 (fun _ => rfl) rfl rfl rfl)) ?_
     refine ed (sv x26.a x26.xs.length x26.c) rfl rfl (dv_assign rfl) ?_
     refine E_nil ?_
     refine th_norm ?_
     have hR := hS.pushes
     have hKb := hS.keep
     have hB := fun Hc (hc : Keep _ Hc) => hR [] Hc (.base hc)
     refine AWp_D0 rfl (by decide +kernel) fun hM => ?_
     refine wd (sv a2 4 4) rfl rfl (fun _ hc => dv_move rfl) ?_
     obtain ⟨x28, hx28⟩ := get_el (xs := o) (i := 1) (by omega)
     refine wd (sp a2 (1 * 1)) rfl rfl (fun _ hc => dv_indexAddr (a := sv a2 4 4) (b := iv 1) rfl rfl (ix_sls (n := 4) (i := 1) ((hB _ hc).sls 1 rfl) hx28 rfl rfl rfl (by omega))) ?_
     refine wd (fl x28) rfl rfl (fun _ hc => dv_load rfl (ld_sls (sz := 1) (off := 0) ((hB _ hc).sls 1 rfl) hx28 (fun _ => rfl) rfl rfl rfl)) ?_
     refine wd (pt b1 3) rfl rfl (fun _ hc => dv_fieldAddr rfl rfl) ?_
     refine wd (fl b.film) rfl rfl (fun _ hc => dv_load rfl (ld_box ((hB _ hc).box 0 rfl) rfl rfl rfl)) ?_
     refine wd (pt b1 0) rfl rfl (fun _ hc => dv_fieldAddr rfl rfl) ?_
     refine wd (mva b.m) rfl rfl (fun _ hc => dv_load rfl (ld_boxA (n := 2) ((hB _ hc).box 0 rfl) rfl rfl (Nat.le_of_ble_eq_true rfl) rfl)) ?_
     refine wd (sv x26.a x26.xs.length x26.c) rfl rfl (fun _ hc => dv_move rfl) ?_
     refine W_call (vs := [mva b.m, sv x26.a x26.xs.length x26.c]) rfl rfl rfl rfl rfl rfl rfl (normalOf_ok b.m x26.a x26.xs.length x26.c x26.xs _ (hb.1.keep (hKb.trans hM.keep)) ⟨(hv27.1.keep (hKb.trans hM.keep)), rfl, hv27.2⟩ (by first | assumption | omega | (simp only [*]; assumption) | (simp_all; done))) ?_
     rintro _ H ⟨v29, rfl, rfl, hQ⟩
     have hM := hM.up hQ.keep
     refine ⟨hM.keep, ?_⟩
     refine W_call (vs := [.agg #[fl ((normalD b.m.ps x26.xs).x), fl ((normalD b.m.ps x26.xs).y), fl ((normalD b.m.ps x26.xs).z)]]) rfl rfl rfl rfl rfl rfl rfl (LongOf_ok (normalD b.m.ps x26.xs) _) ?_
     rintro _ H ⟨v30, rfl, rfl, hQ⟩
     have hM := hM.up hQ.keep
     refine ⟨hM.keep, ?_⟩
     refine wd (fl (fop .mul .f32 1056964608 (vlong (normalD b.m.ps x26.xs)))) rfl rfl (fun _ hc => dv_bin rfl rfl rfl) ?_
     refine wd (fl (fop .mul .f32 b.film (fop .mul .f32 1056964608 (vlong (normalD b.m.ps x26.xs))))) rfl rfl (fun _ hc => dv_bin rfl rfl rfl) ?_
     refine wd (fl (fop .add .f32 x28 (fop .mul .f32 b.film (fop .mul .f32 1056964608 (vlong (normalD b.m.ps x26.xs)))))) rfl rfl (fun _ hc => dv_bin rfl rfl rfl) ?_
     refine wd (sp a2 (1 * 1)) rfl rfl (fun _ hc => dv_indexAddr (a := sv a2 4 4) (b := iv 1) rfl rfl (ix_sls (n := 4) (i := 1) ((hB _ hc).sls 1 rfl) hx28 rfl rfl rfl (by omega))) ?_
     have hS := hR _ _ hM
     refine D_storeS (k := 1) (i := 1) (z' := fop .add .f32 x28 (fop .mul .f32 b.film (fop .mul .f32 1056964608 (vlong (normalD b.m.ps x26.xs))))) (off := 0) (yv := fl (fop .add .f32 x28 (fop .mul .f32 b.film (fop .mul .f32 1056964608 (vlong (normalD b.m.ps x26.xs)))))) hS rfl rfl rfl rfl rfl (fun _ => rfl) rfl rfl rfl hx28 rfl rfl rfl rfl fun H hS => ?_
     have hx31 := set_get (z := fop .add .f32 x28 (fop .mul .f32 b.film (fop .mul .f32 1056964608 (vlong (normalD b.m.ps x26.xs))))) hx28
     refine bl_norm ?_
     refine th_norm ?_
     refine AWp_E rfl ?_
     refine ed (iv ((j + 1 : Nat) : Int)) rfl rfl (dv_bin rfl rfl (bi_add (by omega))) ?_
     refine ed (iv ((j + 1 : Nat) : Int)) rfl rfl (dv_move rfl) ?_
     refine E_nil ?_
     refine loop_next (I := I19) (b.m.tn - (j + 1)) (by rw [hm22]; omega) ?_
     rw [hI19]
     refine ⟨j + 1, o.set 1 (fop .add .f32 x28 (fop .mul .f32 b.film (fop .mul .f32 1056964608 (vlong (normalD b.m.ps x26.xs))))), rfl, (all_c rfl (all_c rfl (all_c rfl (all_c rfl (all_c rfl (all_c rfl (all_c rfl (all_c rfl (all_c rfl (all_c rfl (all_c rfl (all_c rfl (all_c rfl (all_c rfl (all_c rfl all_n))))))))))))))), hS, (by rw [List.length_set]; exact ho_n), ?_, ?_⟩
     · omega
     · rw [ho] at hx28
       simp only [List.getElem?_cons_zero, List.getElem?_cons_succ, Option.some.injEq] at hx28
       subst hx28
       rw [ho]
       simp only [List.set_cons_zero, List.set_cons_succ, iter, part1, alongD, LB.d, LM.d, rxs, Msh.hinges, gD [] (map_get (f := Row.xs) hx26), gD 0 hx31] <;> first | rfl | (simp only [*]; done)
    ·
     refine ed no rfl rfl (dv_bin rfl rfl (bi_lss_f hc25)) ?_
     refine E_nil ?_
     refine th_norm ?_
     refine AWp_seq ?_
     refine AWp_cond (t := false) rfl nofun (fun _ => ?_)
     refine AWp_exit (th_exit (th_exit (bl_exit (?_))))
     refine th_norm ?_
     refine AWp_seq ?_
     refine AWp_seq ?_
     refine AWp_E rfl ?_
     refine ed (pt b1 0) rfl rfl (dv_fieldAddr rfl rfl) ?_
     refine ed (mva b.m) rfl rfl (dv_load rfl (ld_boxA (n := 2) (hS.box 0 rfl) rfl rfl (Nat.le_of_ble_eq_true rfl) rfl)) ?_
     refine E_call (vs := [mva b.m]) rfl rfl rfl rfl rfl rfl rfl (hingesOf_ok b.m _ (hb.1.keep hS.keep) (by first | assumption | omega | (simp only [*]; assumption) | (simp_all; done))) ?_
     rintro _ H ⟨x32, x33, x34, x35, h36, rfl, h37, rfl, hQ⟩
     have hS := hS.push hQ
     refine ed (iv ((x35.length : Nat) : Int)) rfl rfl (dv_len rfl rfl rfl rfl rfl) ?_
     refine ed (iv 0) rfl rfl (dv_move rfl) ?_
     refine E_nil ?_
     refine th_norm ?_
     refine AWp_block ?_
     have hqh : x35.length = (hingesD b.m.ps.length (rxs b.m.ts)).length := by simpa [rxs] using congrArg List.length h36
     obtain ⟨I38, hI38⟩ : ∃ I : Nat → Env → AH → Prop, ∀ m_ e_ Hl, I m_ e_ Hl = (∃ (k : Nat) (o : List (Nat)), m_ = x35.length - k ∧ AllE [(0, bva b), (1, pt b1 0), (2, sv none 0 0), (3, sv a2 4 4), (14, sv a2 4 4), (15, pt b1 2), (16, sv b.sa b.sn b.sc), (17, iv ((b.sn : Nat) : Int)), (18, iv ((i : Nat) : Int)), (19, no), (42, pt b1 0), (43, pt b1 1), (44, sv b.m.ta b.m.tn b.m.tc), (45, iv ((b.m.tn : Nat) : Int)), (46, iv ((j : Nat) : Int)), (47, no), (65, pt b1 0), (66, mva b.m), (67, sv x32 x35.length x34), (68, iv ((x35.length : Nat) : Int)), (69, iv ((k : Nat) : Int))] e_ ∧ SepL H0 [box b1 [sv b.m.pa b.m.pn b.m.pc, sv b.m.ta b.m.tn b.m.tc, sv b.sa b.sn b.sc, fl b.film, fl b.bend, sv b.wa b.wn b.wc, fl b.fall.x, fl b.fall.y, fl b.fall.z] 43, sl encF 27 1 a2 4 o, sl encR 53 1 x32 x34 x35, rowsE 2 x35] Hl ∧ o.length = 4 ∧ (k ≤ x35.length) ∧ (o = [iter (part0 b.d) 0 b.ss.length, iter (part1 b.d) 0 (rxs b.m.ts).length, iter (part2 b.d) 0 k, 0])) := ⟨_, fun _ _ _ => rfl⟩
     refine AWp_loop I38 (x35.length - (0)) ?_ ?_
     ·
      rw [hI38]
      refine ⟨0, o, rfl, (all_c rfl (all_c rfl (all_c rfl (all_c rfl (all_c rfl (all_c rfl (all_c rfl (all_c rfl (all_c rfl (all_c rfl (all_c rfl (all_c rfl (all_c rfl (all_c rfl (all_c rfl (all_c rfl (all_c rfl (all_c rfl (all_c rfl (all_c rfl (all_c rfl all_n))))))))))))))))))))), hS, ho_n, ?_, ?_⟩
      · omega
      · have hii : j = (rxs b.m.ts).length := by rw [rxs, List.length_map]; omega
        rw [ho, hii]; rfl
     ·
      intro m39 _ H hl40
      rw [hI38] at hl40
      obtain ⟨k, o, hm41, he42, hS, ho_n, hi, ho⟩ := hl40
      obtain ⟨e43, rfl⟩ := he42.ex
      refine AWp_seq ?_
      refine AWp_E rfl ?_
      rcases Decidable.em (((k : Nat) : Int) < ((x35.length : Nat) : Int)) with hc44 | hc44
      ·
       refine ed yes rfl rfl (dv_bin rfl rfl (bi_lss_t hc44)) ?_
       refine E_nil ?_
       refine th_norm ?_
       refine AWp_seq ?_
       refine AWp_cond (t := true) rfl (fun _ => ?_) nofun
       refine AWp_skip ?_
       refine th_norm ?_
       refine AWp_seq ?_
       refine AWp_block ?_
       refine AWp_seq ?_
       refine AWp_E rfl ?_
       obtain ⟨x45, hx45⟩ := get_el (xs := x35) (i := k) (by omega)
       have hhk := hinges_ok hbm (rows_get h36 hx45)
       have hhk4 := hhk.1
       refine ed (sp x32 (k * 1)) rfl rfl (dv_indexAddr (a := sv x32 x35.length x34) (b := iv ((k : Nat) : Int)) rfl rfl (ix_sls (n := x35.length) (i := k) (hS.sls 2 rfl) hx45 rfl rfl rfl (get_lt hx45))) ?_
       refine ed (sv x45.a x45.xs.length x45.c) rfl rfl (dv_load rfl (ld_sls (sz := 1) (off := 0) (hS.sls 2 rfl) hx45 (fun _ => rfl) rfl rfl rfl)) ?_
       refine ed (sv x45.a x45.xs.length x45.c) rfl rfl (dv_assign rfl) ?_
       refine E_nil ?_
       refine th_norm ?_
       refine AWp_seq ?_
       refine AWp_E rfl ?_
       refine ed (pt b1 0) rfl rfl (dv_fieldAddr rfl rfl) ?_
       refine ed (mva b.m) rfl rfl (dv_load rfl (ld_boxA (n := 2) (hS.box 0 rfl) rfl rfl (Nat.le_of_ble_eq_true rfl) rfl)) ?_
       refine ed (sv x45.a x45.xs.length x45.c) rfl rfl (dv_move rfl) ?_
       refine E_call (vs := [mva b.m, sv x45.a x45.xs.length x45.c]) rfl rfl rfl rfl rfl rfl rfl (bendOf_ok b.m x45.a x45.xs.length x45.c x45.xs _ (hb.1.keep hS.keep) ⟨(rowsE_sls (hS.at (i := 3) rfl) hx45), rfl, h37 _ (List.mem_of_getElem? hx45)⟩ (by first | assumption | omega | (simp only [*]; assumption) | (simp_all; done))) ?_
       rintro _ H ⟨v46, rfl, rfl, hQ⟩
       have hS := hS.up hQ.keep
       refine S_box (l := [fl 0, fl 0, fl 0]) hS rfl rfl rfl rfl rfl fun b47 H hS => ?_
       refine S_store (i := 4) (yv := .agg #[fl ((bentD b.m.ps x45.xs).x), fl ((bentD b.m.ps x45.xs).y), fl ((bentD b.m.ps x45.xs).z)]) (l' := [fl ((bentD b.m.ps x45.xs).x), fl ((bentD b.m.ps x45.xs).y), fl ((bentD b.m.ps x45.xs).z)]) hS rfl rfl rfl rfl rfl rfl rfl rfl rfl rfl rfl rfl fun H hS => ?_
       refine E_nil ?_
       refine th_norm ?_
       have hR := hS.pushes
       have hKb := hS.keep
       have hB := fun Hc (hc : Keep _ Hc) => hR [] Hc (.base hc)
       refine AWp_D0 rfl (by decide +kernel) fun hM => ?_
       refine wd (sv a2 4 4) rfl rfl (fun _ hc => dv_move rfl) ?_
       obtain ⟨x48, hx48⟩ := get_el (xs := o) (i := 2) (by omega)
       refine wd (sp a2 (2 * 1)) rfl rfl (fun _ hc => dv_indexAddr (a := sv a2 4 4) (b := iv 2) rfl rfl (ix_sls (n := 4) (i := 2) ((hB _ hc).sls 1 rfl) hx48 rfl rfl rfl (by omega))) ?_
       refine wd (fl x48) rfl rfl (fun _ hc => dv_load rfl (ld_sls (sz := 1) (off := 0) ((hB _ hc).sls 1 rfl) hx48 (fun _ => rfl) rfl rfl rfl)) ?_
       refine wd (pt b1 4) rfl rfl (fun _ hc => dv_fieldAddr rfl rfl) ?_
       refine wd (fl b.bend) rfl rfl (fun _ hc => dv_load rfl (ld_box ((hB _ hc).box 0 rfl) rfl rfl rfl)) ?_
       refine wd (fl (fop .mul .f32 1056964608 b.bend)) rfl rfl (fun _ hc => dv_bin rfl rfl rfl) ?_
       refine wd (.agg #[fl ((bentD b.m.ps x45.xs).x), fl ((bentD b.m.ps x45.xs).y), fl ((bentD b.m.ps x45.xs).z)]) rfl rfl (fun _ hc => dv_load rfl (ld_boxA (n := 3) ((hB _ hc).box 4 rfl) rfl rfl (Nat.le_of_ble_eq_true rfl) rfl)) ?_
       refine wd (.agg #[fl ((bentD b.m.ps x45.xs).x), fl ((bentD b.m.ps x45.xs).y), fl ((bentD b.m.ps x45.xs).z)]) rfl rfl (fun _ hc => dv_load rfl (ld_boxA (n := 3) ((hB _ hc).box 4 rfl) rfl rfl (Nat.le_of_ble_eq_true rfl) rfl)) ?_
       refine W_call (vs := [.agg #[fl ((bentD b.m.ps x45.xs).x), fl ((bentD b.m.ps x45.xs).y), fl ((bentD b.m.ps x45.xs).z)], .agg #[fl ((bentD b.m.ps x45.xs).x), fl ((bentD b.m.ps x45.xs).y), fl ((bentD b.m.ps x45.xs).z)]]) rfl rfl rfl rfl rfl rfl rfl (InnerOf_ok (bentD b.m.ps x45.xs) (bentD b.m.ps x45.xs) _) ?_
       rintro _ H ⟨v49, rfl, rfl, hQ⟩
       have hM := hM.up hQ.keep
       refine ⟨hM.keep, ?_⟩
       refine wd (fl (fop .mul .f32 (fop .mul .f32 1056964608 b.bend) (vinner (bentD b.m.ps x45.xs) (bentD b.m.ps x45.xs)))) rfl rfl (fun _ hc => dv_bin rfl rfl rfl) ?_
       refine wd (fl (fop .add .f32 x48 (fop .mul .f32 (fop .mul .f32 1056964608 b.bend) (vinner (bentD b.m.ps x45.xs) (bentD b.m.ps x45.xs))))) rfl rfl (fun _ hc => dv_bin rfl rfl rfl) ?_
       refine wd (sp a2 (2 * 1)) rfl rfl (fun _ hc => dv_indexAddr (a := sv a2 4 4) (b := iv 2) rfl rfl (ix_sls (n := 4) (i := 2) ((hB _ hc).sls 1 rfl) hx48 rfl rfl rfl (by omega))) ?_
       have hS := hR _ _ hM
       refine D_storeS (k := 1) (i := 2) (z' := fop .add .f32 x48 (fop .mul .f32 (fop .mul .f32 1056964608 b.bend) (vinner (bentD b.m.ps x45.xs) (bentD b.m.ps x45.xs)))) (off := 0) (yv := fl (fop .add .f32 x48 (fop .mul .f32 (fop .mul .f32 1056964608 b.bend) (vinner (bentD b.m.ps x45.xs) (bentD b.m.ps x45.xs))))) hS rfl rfl rfl rfl rfl (fun _ => rfl) rfl rfl rfl hx48 rfl rfl rfl rfl fun H hS => ?_
       have hx50 := set_get (z := fop .add .f32 x48 (fop .mul .f32 (fop .mul .f32 1056964608 b.bend) (vinner (bentD b.m.ps x45.xs) (bentD b.m.ps x45.xs)))) hx48
       refine bl_norm ?_
       refine th_norm ?_
       refine AWp_E rfl ?_
       refine ed (iv ((k + 1 : Nat) : Int)) rfl rfl (dv_bin rfl rfl (bi_add (by omega))) ?_
       refine ed (iv ((k + 1 : Nat) : Int)) rfl rfl (dv_move rfl) ?_
       refine E_nil ?_
       refine loop_next (I := I38) (x35.length - (k + 1)) (by rw [hm41]; omega) ?_
       rw [hI38]
       refine ⟨k + 1, o.set 2 (fop .add .f32 x48 (fop .mul .f32 (fop .mul .f32 1056964608 b.bend) (vinner (bentD b.m.ps x45.xs) (bentD b.m.ps x45.xs)))), rfl, (all_c rfl (all_c rfl (all_c rfl (all_c rfl (all_c rfl (all_c rfl (all_c rfl (all_c rfl (all_c rfl (all_c rfl (all_c rfl (all_c rfl (all_c rfl (all_c rfl (all_c rfl (all_c rfl (all_c rfl (all_c rfl (all_c rfl (all_c rfl (all_c rfl all_n))))))))))))))))))))), (hS.pick [0, 1, 2, 3] rfl), (by rw [List.length_set]; exact ho_n), ?_, ?_⟩
       · omega
       · rw [ho] at hx48
         simp only [List.getElem?_cons_zero, List.getElem?_cons_succ, Option.some.injEq] at hx48
         subst hx48
         rw [ho]
         simp only [List.set_cons_zero, List.set_cons_succ, iter, part2, alongD, LB.d, LM.d, rxs, Msh.hinges, gD 0 hx50, gD [] (rows_get h36 hx45)] <;> first | rfl | (simp only [*]; done)
      ·
       refine ed no rfl rfl (dv_bin rfl rfl (bi_lss_f hc44)) ?_
       refine E_nil ?_
       refine th_norm ?_
       refine AWp_seq ?_
       refine AWp_cond (t := false) rfl nofun (fun _ => ?_)
       refine AWp_exit (th_exit (th_exit (bl_exit (?_))))
       refine th_norm ?_
       refine AWp_seq ?_
       refine AWp_seq ?_
       refine AWp_E rfl ?_
       refine ed (pt b1 0) rfl rfl (dv_fieldAddr rfl rfl) ?_
       refine ed (pt b1 0) rfl rfl (dv_fieldAddr rfl rfl) ?_
       refine ed (sv b.m.pa b.m.pn b.m.pc) rfl rfl (dv_load rfl (ld_box (hS.box 0 rfl) rfl rfl rfl)) ?_
       refine ed (iv ((b.m.pn : Nat) : Int)) rfl rfl (dv_len rfl rfl rfl rfl rfl) ?_
       refine ed (iv 0) rfl rfl (dv_move rfl) ?_
       refine E_nil ?_
       refine th_norm ?_
       refine AWp_block ?_
       obtain ⟨I51, hI51⟩ : ∃ I : Nat → Env → AH → Prop, ∀ m_ e_ Hl, I m_ e_ Hl = (∃ (l : Nat) (o : List (Nat)), m_ = b.m.pn - l ∧ AllE [(0, bva b), (1, pt b1 0), (2, sv none 0 0), (3, sv a2 4 4), (14, sv a2 4 4), (15, pt b1 2), (16, sv b.sa b.sn b.sc), (17, iv ((b.sn : Nat) : Int)), (18, iv ((i : Nat) : Int)), (19, no), (42, pt b1 0), (43, pt b1 1), (44, sv b.m.ta b.m.tn b.m.tc), (45, iv ((b.m.tn : Nat) : Int)), (46, iv ((j : Nat) : Int)), (47, no), (65, pt b1 0), (66, mva b.m), (67, sv x32 x35.length x34), (68, iv ((x35.length : Nat) : Int)), (69, iv ((k : Nat) : Int)), (70, no), (90, pt b1 0), (91, pt b1 0), (92, sv b.m.pa b.m.pn b.m.pc), (93, iv ((b.m.pn : Nat) : Int)), (94, iv ((l : Nat) : Int))] e_ ∧ SepL H0 [box b1 [sv b.m.pa b.m.pn b.m.pc, sv b.m.ta b.m.tn b.m.tc, sv b.sa b.sn b.sc, fl b.film, fl b.bend, sv b.wa b.wn b.wc, fl b.fall.x, fl b.fall.y, fl b.fall.z] 43, sl encF 27 1 a2 4 o, sl encR 53 1 x32 x34 x35, rowsE 2 x35] Hl ∧ o.length = 4 ∧ (l ≤ b.m.pn) ∧ (o = [iter (part0 b.d) 0 b.ss.length, iter (part1 b.d) 0 (rxs b.m.ts).length, iter (part2 b.d) 0 (hingesD b.m.ps.length (rxs b.m.ts)).length, iter (part3 b.d) 0 l])) := ⟨_, fun _ _ _ => rfl⟩
       refine AWp_loop I51 (b.m.pn - (0)) ?_ ?_
       ·
        rw [hI51]
        refine ⟨0, o, rfl, (all_c rfl (all_c rfl (all_c rfl (all_c rfl (all_c rfl (all_c rfl (all_c rfl (all_c rfl (all_c rfl (all_c rfl (all_c rfl (all_c rfl (all_c rfl (all_c rfl (all_c rfl (all_c rfl (all_c rfl (all_c rfl (all_c rfl (all_c rfl (all_c rfl (all_c rfl (all_c rfl (all_c rfl (all_c rfl (all_c rfl (all_c rfl all_n))))))))))))))))))))))))))), hS, ho_n, ?_, ?_⟩
        · omega
        · have hii : k = (hingesD b.m.ps.length (rxs b.m.ts)).length := by omega
          rw [ho, hii]; rfl
       ·
        intro m52 _ H hl53
        rw [hI51] at hl53
        obtain ⟨l, o, hm54, he55, hS, ho_n, hi, ho⟩ := hl53
        obtain ⟨e56, rfl⟩ := he55.ex
        refine AWp_seq ?_
        refine AWp_E rfl ?_
        rcases Decidable.em (((l : Nat) : Int) < ((b.m.pn : Nat) : Int)) with hc57 | hc57
        ·
         refine ed yes rfl rfl (dv_bin rfl rfl (bi_lss_t hc57)) ?_
         refine E_nil ?_
         refine th_norm ?_
         refine AWp_seq ?_
         refine AWp_cond (t := true) rfl (fun _ => ?_) nofun
         refine AWp_skip ?_
         refine th_norm ?_
         refine AWp_seq ?_
         refine AWp_block ?_
         refine AWp_seq ?_
         refine AWp_E rfl ?_
         refine ed (iv ((l : Nat) : Int)) rfl rfl (dv_move rfl) ?_
         obtain ⟨x58, hx58⟩ := get_el (xs := b.m.ps) (i := l) (by omega)
         refine ed (sp b.m.pa (l * 3)) rfl rfl (dv_indexAddr (a := sv b.m.pa b.m.pn b.m.pc) (b := iv ((l : Nat) : Int)) rfl rfl (ix_sls (n := b.m.pn) (i := l) (hb_1_ps.keep hS.keep) hx58 rfl rfl rfl (by omega))) ?_
         refine ed (va x58) rfl rfl (dv_load rfl (ld_slsA (sz := 3) (m := 3) (ys := [fl x58.x, fl x58.y, fl x58.z]) (off := 0) (hb_1_ps.keep hS.keep) hx58 (fun _ => rfl) rfl rfl (Nat.le_of_ble_eq_true rfl) rfl)) ?_
         refine S_box (l := [fl 0, fl 0, fl 0]) hS rfl rfl rfl rfl rfl fun b59 H hS => ?_
         refine ed (iv ((l : Nat) : Int)) rfl rfl (dv_assign rfl) ?_
         refine S_store (i := 4) (yv := va x58) (l' := [fl x58.x, fl x58.y, fl x58.z]) hS rfl rfl rfl rfl rfl rfl rfl rfl rfl rfl rfl rfl fun H hS => ?_
         refine E_nil ?_
         refine th_norm ?_
         have hR := hS.pushes
         have hKb := hS.keep
         have hB := fun Hc (hc : Keep _ Hc) => hR [] Hc (.base hc)
         refine AWp_D0 rfl (by decide +kernel) fun hM => ?_
         refine wd (sv a2 4 4) rfl rfl (fun _ hc => dv_move rfl) ?_
         obtain ⟨x60, hx60⟩ := get_el (xs := o) (i := 3) (by omega)
         refine wd (sp a2 (3 * 1)) rfl rfl (fun _ hc => dv_indexAddr (a := sv a2 4 4) (b := iv 3) rfl rfl (ix_sls (n := 4) (i := 3) ((hB _ hc).sls 1 rfl) hx60 rfl rfl rfl (by omega))) ?_
         refine wd (fl x60) rfl rfl (fun _ hc => dv_load rfl (ld_sls (sz := 1) (off := 0) ((hB _ hc).sls 1 rfl) hx60 (fun _ => rfl) rfl rfl rfl)) ?_
         refine wd (pt b1 5) rfl rfl (fun _ hc => dv_fieldAddr rfl rfl) ?_
         refine wd (sv b.wa b.wn b.wc) rfl rfl (fun _ hc => dv_load rfl (ld_box ((hB _ hc).box 0 rfl) rfl rfl rfl)) ?_
         refine wd (iv ((l : Nat) : Int)) rfl rfl (fun _ hc => dv_move rfl) ?_
         obtain ⟨x61, hx61⟩ := get_el (xs := b.ws) (i := l) (by omega)
         refine wd (sp b.wa (l * 1)) rfl rfl (fun _ hc => dv_indexAddr (a := sv b.wa b.wn b.wc) (b := iv ((l : Nat) : Int)) rfl rfl (ix_sls (n := b.wn) (i := l) (hb_ws.keep (hKb.trans hc)) hx61 rfl rfl rfl (by omega))) ?_
         refine wd (fl x61) rfl rfl (fun _ hc => dv_load rfl (ld_sls (sz := 1) (off := 0) (hb_ws.keep (hKb.trans hc)) hx61 (fun _ => rfl) rfl rfl rfl)) ?_
         refine wd (pt b1 6) rfl rfl (fun _ hc => dv_fieldAddr rfl rfl) ?_
         refine wd (va b.fall) rfl rfl (fun _ hc => dv_load rfl (ld_boxA (n := 3) ((hB _ hc).box 0 rfl) rfl rfl (Nat.le_of_ble_eq_true rfl) rfl)) ?_
         refine wd (va x58) rfl rfl (fun _ hc => dv_load rfl (ld_boxA (n := 3) ((hB _ hc).box 4 rfl) rfl rfl (Nat.le_of_ble_eq_true rfl) rfl)) ?_
         refine W_call (vs := [va b.fall, va x58]) rfl rfl rfl rfl rfl rfl rfl (InnerOf_ok b.fall x58 _) ?_
         rintro _ H ⟨v62, rfl, rfl, hQ⟩
         have hM := hM.up hQ.keep
         refine ⟨hM.keep, ?_⟩
         refine wd (fl (fop .mul .f32 x61 (vinner b.fall x58))) rfl rfl (fun _ hc => dv_bin rfl rfl rfl) ?_
         refine wd (fl (fneg .f32 (fop .mul .f32 x61 (vinner b.fall x58)))) rfl rfl (fun _ hc => dv_un rfl rfl) ?_
         refine wd (fl (fop .add .f32 x60 (fneg .f32 (fop .mul .f32 x61 (vinner b.fall x58))))) rfl rfl (fun _ hc => dv_bin rfl rfl rfl) ?_
         refine wd (sp a2 (3 * 1)) rfl rfl (fun _ hc => dv_indexAddr (a := sv a2 4 4) (b := iv 3) rfl rfl (ix_sls (n := 4) (i := 3) ((hB _ hc).sls 1 rfl) hx60 rfl rfl rfl (by omega))) ?_
         have hS := hR _ _ hM
         refine D_storeS (k := 1) (i := 3) (z' := fop .add .f32 x60 (fneg .f32 (fop .mul .f32 x61 (vinner b.fall x58)))) (off := 0) (yv := fl (fop .add .f32 x60 (fneg .f32 (fop .mul .f32 x61 (vinner b.fall x58))))) hS rfl rfl rfl rfl rfl (fun _ => rfl) rfl rfl rfl hx60 rfl rfl rfl rfl fun H hS => ?_
         have hx63 := set_get (z := fop .add .f32 x60 (fneg .f32 (fop .mul .f32 x61 (vinner b.fall x58)))) hx60
         refine bl_norm ?_
         refine th_norm ?_
         refine AWp_E rfl ?_
         refine ed (iv ((l + 1 : Nat) : Int)) rfl rfl (dv_bin rfl rfl (bi_add (by omega))) ?_
         refine ed (iv ((l + 1 : Nat) : Int)) rfl rfl (dv_move rfl) ?_
         refine E_nil ?_
         refine loop_next (I := I51) (b.m.pn - (l + 1)) (by rw [hm54]; omega) ?_
         rw [hI51]
         refine ⟨l + 1, o.set 3 (fop .add .f32 x60 (fneg .f32 (fop .mul .f32 x61 (vinner b.fall x58)))), rfl, (all_c rfl (all_c rfl (all_c rfl (all_c rfl (all_c rfl (all_c rfl (all_c rfl (all_c rfl (all_c rfl (all_c rfl (all_c rfl (all_c rfl (all_c rfl (all_c rfl (all_c rfl (all_c rfl (all_c rfl (all_c rfl (all_c rfl (all_c rfl (all_c rfl (all_c rfl (all_c rfl (all_c rfl (all_c rfl (all_c rfl (all_c rfl all_n))))))))))))))))))))))))))), (hS.pick [0, 1, 2, 3] rfl), (by rw [List.length_set]; exact ho_n), ?_, ?_⟩
         · omega
         · rw [ho] at hx60
           simp only [List.getElem?_cons_zero, List.getElem?_cons_succ, Option.some.injEq] at hx60
           subst hx60
           rw [ho]
           simp only [List.set_cons_zero, List.set_cons_succ, iter, part3, alongD, LB.d, LM.d, rxs, Msh.hinges, gD v0 hx58, gD 0 hx61, gD 0 hx63, at3_nat hx58] <;> first | rfl | (simp only [*]; done)
        ·
         refine ed no rfl rfl (dv_bin rfl rfl (bi_lss_f hc57)) ?_
         refine E_nil ?_
         refine th_norm ?_
         refine AWp_seq ?_
         refine AWp_cond (t := false) rfl nofun (fun _ => ?_)
         refine AWp_exit (th_exit (th_exit (bl_exit (?_))))
         refine th_norm ?_
         refine AWp_seq ?_
         refine AWp_E rfl ?_
         refine ed (sv a2 4 4) rfl rfl (dv_move rfl) ?_
         refine ed (sv a2 4 4) rfl rfl (dv_assign rfl) ?_
         refine E_nil ?_
         refine th_norm ?_
         refine AWp_ret (?_)
         refine ret_of ?_
         refine readsRes_of (rs := [.tmp 2]) (vs := [sv a2 4 4]) rfl (re_cons (re_tmp rfl) (re_nil)) rfl ?_
         refine ⟨a2, 4, 4, o, ?_, ?_, ho_n, rfl, hS.pick [1] rfl⟩
         · rw [ho]; rfl
         · have hii : l = b.m.ps.length := by omega
           rw [ho, hii]; rfl
theorem energyOf_ok (b : LB) (H : AH) (hb : b.ok H) (hb0 : Bod.ok b.d) : ACalls Tryz.prog 57 [bva b] H
  (fun r H' => ∃ (v_ : Nat), energyD b.d = v_ ∧ r = fl v_ ∧ SepL H [] H') := by
 refine ACalls_of Tryz.func57 rfl (Nat.le_of_ble_eq_true rfl) ?_
 obtain ⟨H0, hH0⟩ : ∃ H0, H0 = H := ⟨_, rfl⟩
 have hS : SepL H0 [] H := hH0 ▸ SepL.refl H
 subst hH0
 obtain ⟨⟨hb_1_ps, hb_1_pn, hb_1_pb⟩, hb_1_ts, hb_1_tn, hb_1_tb⟩ := id hb.1
 obtain ⟨⟨hb_ss, hb_sn, hb_sb⟩, hb_ws, hb_wn, hb_wb⟩ := hb.2
 refine AWp_seq ?_
 refine AWp_E rfl ?_
 refine S_box (l := [sv b.m.pa b.m.pn b.m.pc, sv b.m.ta b.m.tn b.m.tc, sv b.sa b.sn b.sc, fl b.film, fl b.bend, sv b.wa b.wn b.wc, fl b.fall.x, fl b.fall.y, fl b.fall.z]) hS rfl rfl rfl rfl rfl fun b1 H hS => ?_
 refine ed (fl 0) rfl rfl (dv_assign rfl) ?_
 refine E_nil ?_
 refine th_norm ?_
 refine AWp_seq ?_
 refine AWp_E rfl ?_
 refine ed (bva b) rfl rfl (dv_load rfl (ld_boxA (n := 9) (hS.box 0 rfl) rfl rfl (Nat.le_of_ble_eq_true rfl) rfl)) ?_
 refine E_call (vs := [bva b]) rfl rfl rfl rfl rfl rfl rfl (partsOf_ok b _ (hb.keep hS.keep) hb0) ?_
 rintro _ H ⟨x2, x3, x4, x5, h6, h7, rfl, rfl, hQ⟩
 have hlh7 := congrArg List.length h7
 have hS := hS.push hQ
 refine ed (sv x2 x5.length x4) rfl rfl (dv_assign rfl) ?_
 refine E_nil ?_
 refine th_norm ?_
 refine AWp_seq ?_
 have hR := hS.pushes
 have hKb := hS.keep
 have hB := fun Hc (hc : Keep _ Hc) => hR [] Hc (.base hc)
 refine AWp_D0 rfl (by decide +kernel) fun hM => ?_
 refine wd (sv x2 x5.length x4) rfl rfl (fun _ hc => dv_move rfl) ?_
 obtain ⟨x8, hx8⟩ := get_el (xs := x5) (i := 0) (by omega)
 refine wd (sp x2 (0 * 1)) rfl rfl (fun _ hc => dv_indexAddr (a := sv x2 x5.length x4) (b := iv 0) rfl rfl (ix_sls (n := x5.length) (i := 0) ((hB _ hc).sls 1 rfl) hx8 rfl rfl rfl (get_lt hx8))) ?_
 refine wd (fl x8) rfl rfl (fun _ hc => dv_load rfl (ld_sls (sz := 1) (off := 0) ((hB _ hc).sls 1 rfl) hx8 (fun _ => rfl) rfl rfl rfl)) ?_
 refine wd (sv x2 x5.length x4) rfl rfl (fun _ hc => dv_move rfl) ?_
 obtain ⟨x9, hx9⟩ := get_el (xs := x5) (i := 1) (by omega)
 refine wd (sp x2 (1 * 1)) rfl rfl (fun _ hc => dv_indexAddr (a := sv x2 x5.length x4) (b := iv 1) rfl rfl (ix_sls (n := x5.length) (i := 1) ((hB _ hc).sls 1 rfl) hx9 rfl rfl rfl (get_lt hx9))) ?_
 refine wd (fl x9) rfl rfl (fun _ hc => dv_load rfl (ld_sls (sz := 1) (off := 0) ((hB _ hc).sls 1 rfl) hx9 (fun _ => rfl) rfl rfl rfl)) ?_
 refine wd (fl (fop .add .f32 x8 x9)) rfl rfl (fun _ hc => dv_bin rfl rfl rfl) ?_
 refine wd (sv x2 x5.length x4) rfl rfl (fun _ hc => dv_move rfl) ?_
 obtain ⟨x10, hx10⟩ := get_el (xs := x5) (i := 2) (by omega)
 refine wd (sp x2 (2 * 1)) rfl rfl (fun _ hc => dv_indexAddr (a := sv x2 x5.length x4) (b := iv 2) rfl rfl (ix_sls (n := x5.length) (i := 2) ((hB _ hc).sls 1 rfl) hx10 rfl rfl rfl (get_lt hx10))) ?_
 refine wd (fl x10) rfl rfl (fun _ hc => dv_load rfl (ld_sls (sz := 1) (off := 0) ((hB _ hc).sls 1 rfl) hx10 (fun _ => rfl) rfl rfl rfl)) ?_
 refine wd (fl (fop .add .f32 (fop .add .f32 x8 x9) x10)) rfl rfl (fun _ hc => dv_bin rfl rfl rfl) ?_
 refine wd (sv x2 x5.length x4) rfl rfl (fun _ hc => dv_move rfl) ?_
 obtain ⟨x11, hx11⟩ := get_el (xs := x5) (i := 3) (by omega)
 refine wd (sp x2 (3 * 1)) rfl rfl (fun _ hc => dv_indexAddr (a := sv x2 x5.length x4) (b := iv 3) rfl rfl (ix_sls (n := x5.length) (i := 3) ((hB _ hc).sls 1 rfl) hx11 rfl rfl rfl (get_lt hx11))) ?_
 refine wd (fl x11) rfl rfl (fun _ hc => dv_load rfl (ld_sls (sz := 1) (off := 0) ((hB _ hc).sls 1 rfl) hx11 (fun _ => rfl) rfl rfl rfl)) ?_
 refine wd (fl (fop .add .f32 (fop .add .f32 (fop .add .f32 x8 x9) x10) x11)) rfl rfl (fun _ hc => dv_bin rfl rfl rfl) ?_
 refine wd (fl (fop .add .f32 (fop .add .f32 (fop .add .f32 x8 x9) x10) x11)) rfl rfl (fun _ hc => dv_assign rfl) ?_
 have hS := hR _ _ hM
 refine W_nil ?_
 refine th_norm ?_
 refine AWp_ret (?_)
 refine ret_of ?_
 refine readsRes_of (rs := [.tmp 2]) (vs := [fl (fop .add .f32 (fop .add .f32 (fop .add .f32 x8 x9) x10) x11)]) rfl (re_cons (re_tmp rfl) (re_nil)) rfl ?_
 refine ⟨(fop .add .f32 (fop .add .f32 (fop .add .f32 x8 x9) x10) x11), ?_, rfl, .base hS.keep⟩
 · unfold energyD
   rw [← h7]
   simp only [gD 0 hx8, gD 0 hx9, gD 0 hx10, gD 0 hx11]
end Go.Ab

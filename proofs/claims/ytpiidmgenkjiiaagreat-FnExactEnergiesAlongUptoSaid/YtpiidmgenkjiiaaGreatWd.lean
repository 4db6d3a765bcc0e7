/- Walks through functions of the program: what each computes, told over that view of memory; each with the conditions that it tells. -/
import Derived.Test.YtpiidmgenkjiiaaGreatProg
import Derived.Test.YtpiidmgenkjiiaaGreatWc
import Derived.Test.YtpiidmgenkjiiaaGreatVb
set_option maxRecDepth 100000
set_option maxHeartbeats 4000000
namespace Go.Ab
open Go.Proofs
theorem l03Normal_ok (m_p m_o : Nat) (m : LM) (t_a : Option Addr) (t_n t_c : Nat) (t : List (Int)) (H : AH) (hmpv : PV H m_p m_o m.v) (hm : m.ok H) (ht : VS H encI t_a t_n t) (ht0 : triP t m.ps.length) : ACalls Tryz.prog 118 [pt m_p m_o, sv t_a t_n t_c] H
  (fun r H' => ∃ (v_ : V3), normalD m.ps t = v_ ∧ r = va v_ ∧ SepL H [] H') := by
 refine ACalls_of Tryz.func118 rfl (Nat.le_of_ble_eq_true rfl) ?_
 obtain ⟨H0, hH0⟩ : ∃ H0, H0 = H := ⟨_, rfl⟩
 have hS : SepL H0 [] H := hH0 ▸ SepL.refl H
 subst hH0
 obtain ⟨⟨hm_ps, hm_pn, hm_pb⟩, hm_ts, hm_tn, hm_tb⟩ := id hm
 obtain ⟨ht_s, ht_n, ht_b⟩ := id ht
 have hl3 := ht0.1
 refine AWp_seq ?_
 refine AWp_E rfl ?_
 refine S_box (l := [fl 0, fl 0, fl 0]) hS rfl rfl rfl rfl rfl fun b1 H hS => ?_
 refine E_nil ?_
 refine th_norm ?_
 refine AWp_seq ?_
 have hR := hS.pushes
 have hKb := hS.keep
 have hB := fun Hc (hc : Keep _ Hc) => hR [] Hc (.base hc)
 refine AWp_D0 rfl (by decide +kernel) fun hM => ?_
 refine wd (pt m_p m_o) rfl rfl (fun _ hc => dv_move rfl) ?_
 refine wd (pt m_p m_o) rfl rfl (fun _ hc => dv_nilCheck rfl) ?_
 refine wd (pt m_p m_o) rfl rfl (fun _ hc => dv_fieldAddr rfl rfl) ?_
 refine wd (sv m.pa m.pn m.pc) rfl rfl (fun _ hc => dv_load rfl (ld_pv (off := 0) (hmpv.keep (hKb.trans hc)) rfl rfl rfl)) ?_
 refine wd (sv t_a t_n t_c) rfl rfl (fun _ hc => dv_move rfl) ?_
 obtain ⟨x2, hx2⟩ := get_el (xs := t) (i := 0) (by omega)
 have ht3 := triP_get ht0 hx2
 unfold inP at ht3
 refine wd (sp t_a (0 * 1)) rfl rfl (fun _ hc => dv_indexAddr (a := sv t_a t_n t_c) (b := iv 0) rfl rfl (ix_sls (n := t_n) (i := 0) (ht_s.keep (hKb.trans hc)) hx2 rfl rfl rfl (by omega))) ?_
 refine wd (iv x2) rfl rfl (fun _ hc => dv_load rfl (ld_sls (sz := 1) (off := 0) (ht_s.keep (hKb.trans hc)) hx2 (fun _ => rfl) rfl rfl rfl)) ?_
 obtain ⟨x4, hx4⟩ := get_el (xs := m.ps) (i := (x2).toNat) (by omega)
 refine wd (sp m.pa (((x2).toNat) * 3)) rfl rfl (fun _ hc => dv_indexAddr (a := sv m.pa m.pn m.pc) (b := iv x2) rfl rfl (ix_sls (n := m.pn) (i := ((x2).toNat)) (hm_ps.keep (hKb.trans hc)) hx4 rfl rfl (by omega) (by omega))) ?_
 refine wd (va x4) rfl rfl (fun _ hc => dv_load rfl (ld_slsA (sz := 3) (m := 3) (ys := [fl x4.x, fl x4.y, fl x4.z]) (off := 0) (hm_ps.keep (hKb.trans hc)) hx4 (fun _ => rfl) rfl rfl (Nat.le_of_ble_eq_true rfl) rfl)) ?_
 refine D_box (l := [fl 0, fl 0, fl 0]) hM rfl rfl rfl rfl rfl fun b5 H hM => ?_
 have hS := hR _ _ hM
 refine D_store (i := 1) (yv := va x4) (l' := [fl x4.x, fl x4.y, fl x4.z]) hS rfl rfl rfl rfl rfl rfl rfl rfl rfl rfl rfl rfl rfl fun H hS => ?_
 refine th_norm ?_
 refine AWp_seq ?_
 have hR := hS.pushes
 have hKb := hS.keep
 have hB := fun Hc (hc : Keep _ Hc) => hR [] Hc (.base hc)
 refine AWp_D0 rfl (by decide +kernel) fun hM => ?_
 refine wd (pt m_p m_o) rfl rfl (fun _ hc => dv_move rfl) ?_
 refine wd (pt m_p m_o) rfl rfl (fun _ hc => dv_nilCheck rfl) ?_
 refine wd (pt m_p m_o) rfl rfl (fun _ hc => dv_fieldAddr rfl rfl) ?_
 refine wd (sv m.pa m.pn m.pc) rfl rfl (fun _ hc => dv_load rfl (ld_pv (off := 0) (hmpv.keep (hKb.trans hc)) rfl rfl rfl)) ?_
 refine wd (sv t_a t_n t_c) rfl rfl (fun _ hc => dv_move rfl) ?_
 obtain ⟨x6, hx6⟩ := get_el (xs := t) (i := 1) (by omega)
 have ht7 := triP_get ht0 hx6
 unfold inP at ht7
 refine wd (sp t_a (1 * 1)) rfl rfl (fun _ hc => dv_indexAddr (a := sv t_a t_n t_c) (b := iv 1) rfl rfl (ix_sls (n := t_n) (i := 1) (ht_s.keep (hKb.trans hc)) hx6 rfl rfl rfl (by omega))) ?_
 refine wd (iv x6) rfl rfl (fun _ hc => dv_load rfl (ld_sls (sz := 1) (off := 0) (ht_s.keep (hKb.trans hc)) hx6 (fun _ => rfl) rfl rfl rfl)) ?_
 obtain ⟨x8, hx8⟩ := get_el (xs := m.ps) (i := (x6).toNat) (by omega)
 refine wd (sp m.pa (((x6).toNat) * 3)) rfl rfl (fun _ hc => dv_indexAddr (a := sv m.pa m.pn m.pc) (b := iv x6) rfl rfl (ix_sls (n := m.pn) (i := ((x6).toNat)) (hm_ps.keep (hKb.trans hc)) hx8 rfl rfl (by omega) (by omega))) ?_
 refine wd (va x8) rfl rfl (fun _ hc => dv_load rfl (ld_slsA (sz := 3) (m := 3) (ys := [fl x8.x, fl x8.y, fl x8.z]) (off := 0) (hm_ps.keep (hKb.trans hc)) hx8 (fun _ => rfl) rfl rfl (Nat.le_of_ble_eq_true rfl) rfl)) ?_
 refine wd (va x4) rfl rfl (fun _ hc => dv_load rfl (ld_boxA (n := 3) ((hB _ hc).box 1 rfl) rfl rfl (Nat.le_of_ble_eq_true rfl) rfl)) ?_
 refine W_call (vs := [va x8, va x4]) rfl rfl rfl rfl rfl rfl rfl (l01Less_ok x8 x4 _) ?_
 rintro _ H ⟨v9, rfl, rfl, hQ⟩
 have hM := hM.up hQ.keep
 refine ⟨hM.keep, ?_⟩
 refine wd (pt m_p m_o) rfl rfl (fun _ hc => dv_move rfl) ?_
 refine wd (pt m_p m_o) rfl rfl (fun _ hc => dv_nilCheck rfl) ?_
 refine wd (pt m_p m_o) rfl rfl (fun _ hc => dv_fieldAddr rfl rfl) ?_
 refine wd (sv m.pa m.pn m.pc) rfl rfl (fun _ hc => dv_load rfl (ld_pv (off := 0) (hmpv.keep (hKb.trans hc)) rfl rfl rfl)) ?_
 refine wd (sv t_a t_n t_c) rfl rfl (fun _ hc => dv_move rfl) ?_
 obtain ⟨x10, hx10⟩ := get_el (xs := t) (i := 2) (by omega)
 have ht11 := triP_get ht0 hx10
 unfold inP at ht11
 refine wd (sp t_a (2 * 1)) rfl rfl (fun _ hc => dv_indexAddr (a := sv t_a t_n t_c) (b := iv 2) rfl rfl (ix_sls (n := t_n) (i := 2) (ht_s.keep (hKb.trans hc)) hx10 rfl rfl rfl (by omega))) ?_
 refine wd (iv x10) rfl rfl (fun _ hc => dv_load rfl (ld_sls (sz := 1) (off := 0) (ht_s.keep (hKb.trans hc)) hx10 (fun _ => rfl) rfl rfl rfl)) ?_
 obtain ⟨x12, hx12⟩ := get_el (xs := m.ps) (i := (x10).toNat) (by omega)
 refine wd (sp m.pa (((x10).toNat) * 3)) rfl rfl (fun _ hc => dv_indexAddr (a := sv m.pa m.pn m.pc) (b := iv x10) rfl rfl (ix_sls (n := m.pn) (i := ((x10).toNat)) (hm_ps.keep (hKb.trans hc)) hx12 rfl rfl (by omega) (by omega))) ?_
 refine wd (va x12) rfl rfl (fun _ hc => dv_load rfl (ld_slsA (sz := 3) (m := 3) (ys := [fl x12.x, fl x12.y, fl x12.z]) (off := 0) (hm_ps.keep (hKb.trans hc)) hx12 (fun _ => rfl) rfl rfl (Nat.le_of_ble_eq_true rfl) rfl)) ?_
 refine wd (va x4) rfl rfl (fun _ hc => dv_load rfl (ld_boxA (n := 3) ((hB _ hc).box 1 rfl) rfl rfl (Nat.le_of_ble_eq_true rfl) rfl)) ?_
 refine W_call (vs := [va x12, va x4]) rfl rfl rfl rfl rfl rfl rfl (l01Less_ok x12 x4 _) ?_
 rintro _ H ⟨v13, rfl, rfl, hQ⟩
 have hM := hM.up hQ.keep
 refine ⟨hM.keep, ?_⟩
 refine W_call (vs := [.agg #[fl ((vsub x8 x4).x), fl ((vsub x8 x4).y), fl ((vsub x8 x4).z)], .agg #[fl ((vsub x12 x4).x), fl ((vsub x12 x4).y), fl ((vsub x12 x4).z)]]) rfl rfl rfl rfl rfl rfl rfl (l01Cross_ok (vsub x8 x4) (vsub x12 x4) _) ?_
 rintro _ H ⟨v14, rfl, rfl, hQ⟩
 have hM := hM.up hQ.keep
 refine ⟨hM.keep, ?_⟩
 have hS := hR _ _ hM
 refine D_store (i := 0) (yv := .agg #[fl ((vcross (vsub x8 x4) (vsub x12 x4)).x), fl ((vcross (vsub x8 x4) (vsub x12 x4)).y), fl ((vcross (vsub x8 x4) (vsub x12 x4)).z)]) (l' := [fl ((vcross (vsub x8 x4) (vsub x12 x4)).x), fl ((vcross (vsub x8 x4) (vsub x12 x4)).y), fl ((vcross (vsub x8 x4) (vsub x12 x4)).z)]) hS rfl rfl rfl rfl rfl rfl rfl rfl rfl rfl rfl rfl rfl fun H hS => ?_
 refine th_norm ?_
 refine AWp_ret (?_)
 refine ret_of ?_
 refine readsRes_of (rs := [.cell 4 41]) (vs := [.agg #[fl ((vcross (vsub x8 x4) (vsub x12 x4)).x), fl ((vcross (vsub x8 x4) (vsub x12 x4)).y), fl ((vcross (vsub x8 x4) (vsub x12 x4)).z)]]) rfl (re_cons (re_cell (p := pt b1 0) rfl (ld_boxA (n := 3) (hS.box 0 rfl) rfl rfl (Nat.le_of_ble_eq_true rfl) rfl)) (re_nil)) rfl ?_
 refine ⟨(vcross (vsub x8 x4) (vsub x12 x4)), ?_, rfl, .base hS.keep⟩
 · simp only [normalD, gD 0 hx2, at3_of hx4, gD 0 hx6, at3_of hx8, gD 0 hx10, at3_of hx12] <;> first | assumption | omega
theorem l03Bent_ok (m_p m_o : Nat) (m : LM) (h_a : Option Addr) (h_n h_c : Nat) (h : List (Int)) (H : AH) (hmpv : PV H m_p m_o m.v) (hm : m.ok H) (hh : VS H encI h_a h_n h) (hh0 : hinP m.ps.length h) : ACalls Tryz.prog 120 [pt m_p m_o, sv h_a h_n h_c] H
  (fun r H' => ∃ (v_ : V3), bentD m.ps h = v_ ∧ r = va v_ ∧ SepL H [] H') := by
 refine ACalls_of Tryz.func120 rfl (Nat.le_of_ble_eq_true rfl) ?_
 obtain ⟨H0, hH0⟩ : ∃ H0, H0 = H := ⟨_, rfl⟩
 have hS : SepL H0 [] H := hH0 ▸ SepL.refl H
 subst hH0
 obtain ⟨⟨hm_ps, hm_pn, hm_pb⟩, hm_ts, hm_tn, hm_tb⟩ := id hm
 obtain ⟨hh_s, hh_n, hh_b⟩ := id hh
 have hl4 := hh0.1
 refine AWp_seq ?_
 refine AWp_E rfl ?_
 refine S_box (l := [fl 0, fl 0, fl 0]) hS rfl rfl rfl rfl rfl fun b1 H hS => ?_
 refine E_nil ?_
 refine th_norm ?_
 refine AWp_seq ?_
 have hR := hS.pushes
 have hKb := hS.keep
 have hB := fun Hc (hc : Keep _ Hc) => hR [] Hc (.base hc)
 refine AWp_D0 rfl (by decide +kernel) fun hM => ?_
 refine wd (pt m_p m_o) rfl rfl (fun _ hc => dv_move rfl) ?_
 refine wd (pt m_p m_o) rfl rfl (fun _ hc => dv_nilCheck rfl) ?_
 refine wd (pt m_p m_o) rfl rfl (fun _ hc => dv_fieldAddr rfl rfl) ?_
 refine wd (sv m.pa m.pn m.pc) rfl rfl (fun _ hc => dv_load rfl (ld_pv (off := 0) (hmpv.keep (hKb.trans hc)) rfl rfl rfl)) ?_
 refine wd (sv h_a h_n h_c) rfl rfl (fun _ hc => dv_move rfl) ?_
 obtain ⟨x2, hx2⟩ := get_el (xs := h) (i := 2) (by omega)
 have ht3 := hinP_get hh0 hx2
 refine wd (sp h_a (2 * 1)) rfl rfl (fun _ hc => dv_indexAddr (a := sv h_a h_n h_c) (b := iv 2) rfl rfl (ix_sls (n := h_n) (i := 2) (hh_s.keep (hKb.trans hc)) hx2 rfl rfl rfl (by omega))) ?_
 refine wd (iv x2) rfl rfl (fun _ hc => dv_load rfl (ld_sls (sz := 1) (off := 0) (hh_s.keep (hKb.trans hc)) hx2 (fun _ => rfl) rfl rfl rfl)) ?_
 obtain ⟨x4, hx4⟩ := get_el (xs := m.ps) (i := (x2).toNat) (by omega)
 refine wd (sp m.pa (((x2).toNat) * 3)) rfl rfl (fun _ hc => dv_indexAddr (a := sv m.pa m.pn m.pc) (b := iv x2) rfl rfl (ix_sls (n := m.pn) (i := ((x2).toNat)) (hm_ps.keep (hKb.trans hc)) hx4 rfl rfl (by omega) (by omega))) ?_
 refine wd (va x4) rfl rfl (fun _ hc => dv_load rfl (ld_slsA (sz := 3) (m := 3) (ys := [fl x4.x, fl x4.y, fl x4.z]) (off := 0) (hm_ps.keep (hKb.trans hc)) hx4 (fun _ => rfl) rfl rfl (Nat.le_of_ble_eq_true rfl) rfl)) ?_
 refine wd (pt m_p m_o) rfl rfl (fun _ hc => dv_move rfl) ?_
 refine wd (pt m_p m_o) rfl rfl (fun _ hc => dv_nilCheck rfl) ?_
 refine wd (pt m_p m_o) rfl rfl (fun _ hc => dv_fieldAddr rfl rfl) ?_
 refine wd (sv m.pa m.pn m.pc) rfl rfl (fun _ hc => dv_load rfl (ld_pv (off := 0) (hmpv.keep (hKb.trans hc)) rfl rfl rfl)) ?_
 refine wd (sv h_a h_n h_c) rfl rfl (fun _ hc => dv_move rfl) ?_
 obtain ⟨x5, hx5⟩ := get_el (xs := h) (i := 3) (by omega)
 have ht6 := hinP_get hh0 hx5
 refine wd (sp h_a (3 * 1)) rfl rfl (fun _ hc => dv_indexAddr (a := sv h_a h_n h_c) (b := iv 3) rfl rfl (ix_sls (n := h_n) (i := 3) (hh_s.keep (hKb.trans hc)) hx5 rfl rfl rfl (by omega))) ?_
 refine wd (iv x5) rfl rfl (fun _ hc => dv_load rfl (ld_sls (sz := 1) (off := 0) (hh_s.keep (hKb.trans hc)) hx5 (fun _ => rfl) rfl rfl rfl)) ?_
 obtain ⟨x7, hx7⟩ := get_el (xs := m.ps) (i := (x5).toNat) (by omega)
 refine wd (sp m.pa (((x5).toNat) * 3)) rfl rfl (fun _ hc => dv_indexAddr (a := sv m.pa m.pn m.pc) (b := iv x5) rfl rfl (ix_sls (n := m.pn) (i := ((x5).toNat)) (hm_ps.keep (hKb.trans hc)) hx7 rfl rfl (by omega) (by omega))) ?_
 refine wd (va x7) rfl rfl (fun _ hc => dv_load rfl (ld_slsA (sz := 3) (m := 3) (ys := [fl x7.x, fl x7.y, fl x7.z]) (off := 0) (hm_ps.keep (hKb.trans hc)) hx7 (fun _ => rfl) rfl rfl (Nat.le_of_ble_eq_true rfl) rfl)) ?_
 refine W_call (vs := [va x4, va x7]) rfl rfl rfl rfl rfl rfl rfl (l01Add_ok x4 x7 _) ?_
 rintro _ H ⟨v8, rfl, rfl, hQ⟩
 have hM := hM.up hQ.keep
 refine ⟨hM.keep, ?_⟩
 refine wd (pt m_p m_o) rfl rfl (fun _ hc => dv_move rfl) ?_
 refine wd (pt m_p m_o) rfl rfl (fun _ hc => dv_nilCheck rfl) ?_
 refine wd (pt m_p m_o) rfl rfl (fun _ hc => dv_fieldAddr rfl rfl) ?_
 refine wd (sv m.pa m.pn m.pc) rfl rfl (fun _ hc => dv_load rfl (ld_pv (off := 0) (hmpv.keep (hKb.trans hc)) rfl rfl rfl)) ?_
 refine wd (sv h_a h_n h_c) rfl rfl (fun _ hc => dv_move rfl) ?_
 obtain ⟨x9, hx9⟩ := get_el (xs := h) (i := 0) (by omega)
 have ht10 := hinP_get hh0 hx9
 refine wd (sp h_a (0 * 1)) rfl rfl (fun _ hc => dv_indexAddr (a := sv h_a h_n h_c) (b := iv 0) rfl rfl (ix_sls (n := h_n) (i := 0) (hh_s.keep (hKb.trans hc)) hx9 rfl rfl rfl (by omega))) ?_
 refine wd (iv x9) rfl rfl (fun _ hc => dv_load rfl (ld_sls (sz := 1) (off := 0) (hh_s.keep (hKb.trans hc)) hx9 (fun _ => rfl) rfl rfl rfl)) ?_
 obtain ⟨x11, hx11⟩ := get_el (xs := m.ps) (i := (x9).toNat) (by omega)
 refine wd (sp m.pa (((x9).toNat) * 3)) rfl rfl (fun _ hc => dv_indexAddr (a := sv m.pa m.pn m.pc) (b := iv x9) rfl rfl (ix_sls (n := m.pn) (i := ((x9).toNat)) (hm_ps.keep (hKb.trans hc)) hx11 rfl rfl (by omega) (by omega))) ?_
 refine wd (va x11) rfl rfl (fun _ hc => dv_load rfl (ld_slsA (sz := 3) (m := 3) (ys := [fl x11.x, fl x11.y, fl x11.z]) (off := 0) (hm_ps.keep (hKb.trans hc)) hx11 (fun _ => rfl) rfl rfl (Nat.le_of_ble_eq_true rfl) rfl)) ?_
 refine wd (pt m_p m_o) rfl rfl (fun _ hc => dv_move rfl) ?_
 refine wd (pt m_p m_o) rfl rfl (fun _ hc => dv_nilCheck rfl) ?_
 refine wd (pt m_p m_o) rfl rfl (fun _ hc => dv_fieldAddr rfl rfl) ?_
 refine wd (sv m.pa m.pn m.pc) rfl rfl (fun _ hc => dv_load rfl (ld_pv (off := 0) (hmpv.keep (hKb.trans hc)) rfl rfl rfl)) ?_
 refine wd (sv h_a h_n h_c) rfl rfl (fun _ hc => dv_move rfl) ?_
 obtain ⟨x12, hx12⟩ := get_el (xs := h) (i := 1) (by omega)
 have ht13 := hinP_get hh0 hx12
 refine wd (sp h_a (1 * 1)) rfl rfl (fun _ hc => dv_indexAddr (a := sv h_a h_n h_c) (b := iv 1) rfl rfl (ix_sls (n := h_n) (i := 1) (hh_s.keep (hKb.trans hc)) hx12 rfl rfl rfl (by omega))) ?_
 refine wd (iv x12) rfl rfl (fun _ hc => dv_load rfl (ld_sls (sz := 1) (off := 0) (hh_s.keep (hKb.trans hc)) hx12 (fun _ => rfl) rfl rfl rfl)) ?_
 obtain ⟨x14, hx14⟩ := get_el (xs := m.ps) (i := (x12).toNat) (by omega)
 refine wd (sp m.pa (((x12).toNat) * 3)) rfl rfl (fun _ hc => dv_indexAddr (a := sv m.pa m.pn m.pc) (b := iv x12) rfl rfl (ix_sls (n := m.pn) (i := ((x12).toNat)) (hm_ps.keep (hKb.trans hc)) hx14 rfl rfl (by omega) (by omega))) ?_
 refine wd (va x14) rfl rfl (fun _ hc => dv_load rfl (ld_slsA (sz := 3) (m := 3) (ys := [fl x14.x, fl x14.y, fl x14.z]) (off := 0) (hm_ps.keep (hKb.trans hc)) hx14 (fun _ => rfl) rfl rfl (Nat.le_of_ble_eq_true rfl) rfl)) ?_
 refine W_call (vs := [va x11, va x14]) rfl rfl rfl rfl rfl rfl rfl (l01Add_ok x11 x14 _) ?_
 rintro _ H ⟨v15, rfl, rfl, hQ⟩
 have hM := hM.up hQ.keep
 refine ⟨hM.keep, ?_⟩
 refine W_call (vs := [.agg #[fl ((vadd x4 x7).x), fl ((vadd x4 x7).y), fl ((vadd x4 x7).z)], .agg #[fl ((vadd x11 x14).x), fl ((vadd x11 x14).y), fl ((vadd x11 x14).z)]]) rfl rfl rfl rfl rfl rfl rfl (l01Less_ok (vadd x4 x7) (vadd x11 x14) _) ?_
 rintro _ H ⟨v16, rfl, rfl, hQ⟩
 have hM := hM.up hQ.keep
 refine ⟨hM.keep, ?_⟩
 have hS := hR _ _ hM
 refine D_store (i := 0) (yv := .agg #[fl ((vsub (vadd x4 x7) (vadd x11 x14)).x), fl ((vsub (vadd x4 x7) (vadd x11 x14)).y), fl ((vsub (vadd x4 x7) (vadd x11 x14)).z)]) (l' := [fl ((vsub (vadd x4 x7) (vadd x11 x14)).x), fl ((vsub (vadd x4 x7) (vadd x11 x14)).y), fl ((vsub (vadd x4 x7) (vadd x11 x14)).z)]) hS rfl rfl rfl rfl rfl rfl rfl rfl rfl rfl rfl rfl rfl fun H hS => ?_
 refine th_norm ?_
 refine AWp_ret (?_)
 refine ret_of ?_
 refine readsRes_of (rs := [.cell 4 41]) (vs := [.agg #[fl ((vsub (vadd x4 x7) (vadd x11 x14)).x), fl ((vsub (vadd x4 x7) (vadd x11 x14)).y), fl ((vsub (vadd x4 x7) (vadd x11 x14)).z)]]) rfl (re_cons (re_cell (p := pt b1 0) rfl (ld_boxA (n := 3) (hS.box 0 rfl) rfl rfl (Nat.le_of_ble_eq_true rfl) rfl)) (re_nil)) rfl ?_
 refine ⟨(vsub (vadd x4 x7) (vadd x11 x14)), ?_, rfl, .base hS.keep⟩
 · simp only [bentD, gD 0 hx2, at3_of hx4, gD 0 hx5, at3_of hx7, gD 0 hx9, at3_of hx11, gD 0 hx12, at3_of hx14] <;> first | assumption | omega
theorem l00Own_ok (a_a : Option Addr) (a_n a_c : Nat) (a : List (Int)) (H : AH) (ha : VS H encI a_a a_n a) : ACalls Tryz.prog 141 [sv a_a a_n a_c] H
  (fun r H' => ∃ (x_a : Option Addr), ∃ (x_n : Nat), ∃ (x_c : Nat), ∃ (x_ : List (Int)), x_ = a ∧ x_.length = x_n ∧ r = sv x_a x_n x_c ∧ SepL H [sl encI 2 1 x_a x_c x_] H') := by
 refine ACalls_of Tryz.func141 rfl (Nat.le_of_ble_eq_true rfl) ?_
 obtain ⟨H0, hH0⟩ : ∃ H0, H0 = H := ⟨_, rfl⟩
 have hS : SepL H0 [] H := hH0 ▸ SepL.refl H
 subst hH0
 obtain ⟨ha_s, ha_n, ha_b⟩ := id ha
 refine AWp_seq ?_
 refine AWp_E rfl ?_
 refine ed (sv none 0 0) rfl rfl (dv_assign rfl) ?_
 refine E_nil ?_
 refine th_norm ?_
 refine AWp_seq ?_
 refine AWp_E rfl ?_
 refine S_lit (sz := 1) (enc := encI) (xs := ([] : List Int)) (n := 0) hS rfl rfl rfl rfl rfl rfl rfl rfl fun a1 H hS => ?_
 refine ed (sv a_a a_n a_c) rfl rfl (dv_move rfl) ?_
 refine S_append (k := 0) (bytes := 8) (enc := encI) (xs := ([] : List Int)) (ys := a) hS rfl rfl rfl rfl rfl rfl rfl rfl rfl rfl (fun _ => rfl) (fun _ => rfl) rfl rfl rfl ha_n (ha_s.keep hS.keep) (by omega) (by omega) fun a2 c3 x4 H hx5 hn6 hS => ?_
 refine ed (sv a2 x4.length c3) rfl rfl (dv_assign rfl) ?_
 refine E_nil ?_
 refine th_norm ?_
 refine AWp_ret (?_)
 refine ret_of ?_
 refine readsRes_of (rs := [.tmp 2]) (vs := [sv a2 x4.length c3]) rfl (re_cons (re_tmp rfl) (re_nil)) rfl ?_
 refine ⟨a2, x4.length, c3, x4, ?_, rfl, rfl, hS.pick [0] rfl⟩
 · simp [hx5]
theorem l02Own_ok (m_p m_o : Nat) (m : LM) (H : AH) (hmpv : PV H m_p m_o m.v) (hm : m.ok H) : ACalls Tryz.prog 116 [pt m_p m_o] H
  (fun r H' => ∃ (b_ : LM), b_.d = m.d ∧ (b_.ps.length = b_.pn ∧ b_.ts.length = b_.tn) ∧ (∀ q ∈ b_.ts, q.xs.length ≤ 1048576) ∧ r = mva b_ ∧ SepL H [sl encV 41 3 b_.pa b_.pc b_.ps, sl encR 53 1 b_.ta b_.tc b_.ts, rowsE 2 b_.ts] H') := by
 refine ACalls_of Tryz.func116 rfl (Nat.le_of_ble_eq_true rfl) ?_
 obtain ⟨H0, hH0⟩ : ∃ H0, H0 = H := ⟨_, rfl⟩
 have hS : SepL H0 [] H := hH0 ▸ SepL.refl H
 subst hH0
 obtain ⟨⟨hm_ps, hm_pn, hm_pb⟩, hm_ts, hm_tn, hm_tb⟩ := id hm
 refine AWp_seq ?_
 refine AWp_E rfl ?_
 refine S_box (l := [sv none 0 0, sv none 0 0]) hS rfl rfl rfl rfl rfl fun b1 H hS => ?_
 refine E_nil ?_
 refine th_norm ?_
 refine AWp_seq ?_
 refine AWp_E rfl ?_
 refine S_lit (sz := 3) (enc := encV) (xs := ([] : List V3)) (n := 0) hS rfl rfl rfl rfl rfl rfl rfl rfl fun a2 H hS => ?_
 refine ed (pt m_p m_o) rfl rfl (dv_move rfl) ?_
 refine ed (pt m_p m_o) rfl rfl (dv_nilCheck rfl) ?_
 refine ed (pt m_p m_o) rfl rfl (dv_fieldAddr rfl rfl) ?_
 refine ed (sv m.pa m.pn m.pc) rfl rfl (dv_load rfl (ld_pv (off := 0) (hmpv.keep hS.keep) rfl rfl rfl)) ?_
 refine S_append (k := 1) (bytes := 12) (enc := encV) (xs := ([] : List V3)) (ys := m.ps) hS rfl rfl rfl rfl rfl rfl rfl rfl rfl rfl (fun _ => rfl) (fun _ => rfl) rfl rfl rfl hm_pn (hm_ps.keep hS.keep) (by omega) (by omega) fun a3 c4 x5 H hx6 hn7 hS => ?_
 refine S_lit (sz := 1) (enc := encR) (xs := ([] : List Row)) (n := 0) hS rfl rfl rfl rfl rfl rfl rfl rfl fun a8 H hS => ?_
 refine ed (.agg #[sv a3 x5.length c4, sv a8 0 0]) rfl rfl (dv_buildZ (vs := [(0, sv a3 x5.length c4), (1, sv a8 0 0)]) rfl rfl rfl rfl rfl rfl) ?_
 refine S_box (l := [sv none 0 0, sv none 0 0]) hS rfl rfl rfl rfl rfl fun b9 H hS => ?_
 refine S_store (i := 3) (yv := .agg #[sv a3 x5.length c4, sv a8 0 0]) (l' := [sv a3 x5.length c4, sv a8 0 0]) hS rfl rfl rfl rfl rfl rfl rfl rfl rfl rfl rfl rfl fun H hS => ?_
 refine E_nil ?_
 refine th_norm ?_
 refine AWp_seq ?_
 refine AWp_seq ?_
 refine AWp_E rfl ?_
 refine ed (iv 0) rfl rfl (dv_assign rfl) ?_
 refine E_nil ?_
 refine th_norm ?_
 refine AWp_block ?_
 have hS := hS.zero (rowE1 2)
 obtain ⟨I10, hI10⟩ : ∃ I : Nat → Env → AH → Prop, ∀ m_ e_ Hl, I m_ e_ Hl = (∃ (i : Nat) (wa : Option Addr) (wc : Nat) (w : List (Row)), m_ = m.tn - i ∧ AllE [(0, pt m_p m_o), (2, pt b1 0), (3, pt b9 0), (4, iv ((i : Nat) : Int)), (5, sv a2 0 0), (6, pt m_p m_o), (7, pt m_p m_o), (8, pt m_p m_o), (9, sv m.pa m.pn m.pc), (10, sv a3 x5.length c4), (11, sv a8 0 0), (12, .agg #[sv a3 x5.length c4, sv a8 0 0])] e_ ∧ SepL H0 [box b1 [sv none 0 0, sv none 0 0] 39, sl encV 41 3 a3 c4 x5, sl encR 53 1 wa wc w, box b9 [sv a3 x5.length c4, sv wa w.length wc] 39, rowsE 2 w] Hl ∧ (i ≤ m.tn) ∧ (rxs w = (rxs m.ts).take i) ∧ (∀ q ∈ w, q.xs.length ≤ 1048576)) := ⟨_, fun _ _ _ => rfl⟩
 refine AWp_loop I10 (m.tn - (0)) ?_ ?_
 ·
  rw [hI10]
  refine ⟨0, a8, 0, ([] : List Row), rfl, (all_c rfl (all_c rfl (all_c rfl (all_c rfl (all_c rfl (all_c rfl (all_c rfl (all_c rfl (all_c rfl (all_c rfl (all_c rfl (all_c rfl all_n)))))))))))), hS, ?_, ?_, ?_⟩
  · omega
  · rfl
  · simp
 ·
  intro m11 _ H hl12
  rw [hI10] at hl12
  obtain ⟨i, wa, wc, w, hm13, he14, hS, hi, hw, hwl⟩ := hl12
  obtain ⟨e15, rfl⟩ := he14.ex
  have hwn : w.length = i := by have h1 := congrArg List.length hw; rw [rxs, List.length_map, List.length_take, rxs, List.length_map] at h1; omega
  refine AWp_seq ?_
  refine AWp_seq ?_
  refine AWp_E rfl ?_
  refine ed (iv ((i : Nat) : Int)) rfl rfl (dv_move rfl) ?_
  refine ed (pt m_p m_o) rfl rfl (dv_move rfl) ?_
  refine ed (pt m_p m_o) rfl rfl (dv_nilCheck rfl) ?_
  refine ed (pt m_p (m_o + 1)) rfl rfl (dv_fieldAddr rfl rfl) ?_
  refine ed (sv m.ta m.tn m.tc) rfl rfl (dv_load rfl (ld_pv (off := 1) (hmpv.keep hS.keep) rfl rfl rfl)) ?_
  refine ed (iv ((m.tn : Nat) : Int)) rfl rfl (dv_len rfl rfl rfl rfl rfl) ?_
  rcases Decidable.em (((i : Nat) : Int) < ((m.tn : Nat) : Int)) with hc16 | hc16
  ·
   refine ed yes rfl rfl (dv_bin rfl rfl (bi_lss_t hc16)) ?_
   refine E_nil ?_
   refine th_norm ?_
   refine AWp_cond (t := true) rfl (fun _ => ?_) nofun
   refine AWp_skip ?_
   refine th_norm ?_
   refine AWp_seq ?_
   refine AWp_block ?_
   obtain ⟨Hx, hK, hKx, hM, hR⟩ := hS.split [2] rfl
   have hB := fun Hc (hc : Keep Hx Hc) => hR [] Hc (.base hc)
   refine AWp_D hKx rfl (by decide +kernel) ?_
   refine wd (pt b9 1) rfl rfl (fun _ hc => dv_fieldAddr rfl rfl) ?_
   refine wd (sv wa w.length wc) rfl rfl (fun _ hc => dv_load rfl (ld_box ((hB _ hc).box 2 rfl) rfl rfl rfl)) ?_
   refine wd (pt m_p m_o) rfl rfl (fun _ hc => dv_move rfl) ?_
   refine wd (pt m_p m_o) rfl rfl (fun _ hc => dv_nilCheck rfl) ?_
   refine wd (pt m_p (m_o + 1)) rfl rfl (fun _ hc => dv_fieldAddr rfl rfl) ?_
   refine wd (sv m.ta m.tn m.tc) rfl rfl (fun _ hc => dv_load rfl (ld_pv (off := 1) (hmpv.keep (hK.trans hc)) rfl rfl rfl)) ?_
   refine wd (iv ((i : Nat) : Int)) rfl rfl (fun _ hc => dv_move rfl) ?_
   obtain ⟨x17, hx17⟩ := get_el (xs := m.ts) (i := i) (by omega)
   have hv18 := hm_ts.el hx17
   have hv18l := hv18.2
   refine wd (sp m.ta (i * 1)) rfl rfl (fun _ hc => dv_indexAddr (a := sv m.ta m.tn m.tc) (b := iv ((i : Nat) : Int)) rfl rfl (ix_sls (n := m.tn) (i := i) (hm_ts.1.keep (hK.trans hc)) hx17 rfl rfl rfl (by omega))) ?_
   refine wd (sv x17.a x17.xs.length x17.c) rfl rfl (fun _ hc => dv_load rfl (ld_sls (sz := 1) (off := 0) (hm_ts.1.keep (hK.trans hc)) hx17 (fun _ => rfl) rfl rfl rfl)) ?_
   refine W_call (vs := [sv x17.a x17.xs.length x17.c]) rfl rfl rfl rfl rfl rfl rfl (l00Own_ok x17.a x17.xs.length x17.c x17.xs _ ⟨(hv18.1.keep (hK.trans hM.keep)), rfl, hv18.2⟩) ?_
   rintro _ H ⟨x19, x20, x21, x22, h23, rfl, rfl, hQ⟩
   have hlh23 := congrArg List.length h23
   have hM := hM.push hQ
   refine ⟨hM.keep, ?_⟩
   refine D_lit (sz := 1) (enc := encR) (xs := ([(⟨x19, x21, x22⟩ : Row)] : List (Row))) (n := 1) hM rfl rfl rfl rfl rfl rfl rfl rfl fun a24 H hM => ?_
   refine D_append (k := 0) (bytes := 24) (enc := encR) (xs := w) (ys := ([(⟨x19, x21, x22⟩ : Row)] : List (Row))) hM rfl rfl rfl rfl rfl rfl rfl rfl rfl rfl (fun _ => rfl) (fun _ => rfl) rfl rfl rfl rfl ((hR _ _ hM).sls 6 rfl) (by omega) (by omega) fun a25 c26 x27 H hx28 hn29 hM => ?_
   refine wd (pt b9 1) rfl rfl (fun _ hc => dv_fieldAddr rfl rfl) ?_
   have hS := hR _ _ hM
   refine D_store (i := 2) (yv := sv a25 x27.length c26) (l' := [sv a3 x5.length c4, sv a25 x27.length c26]) hS rfl rfl rfl rfl rfl rfl rfl rfl rfl rfl rfl rfl rfl fun H hS => ?_
   refine bl_norm ?_
   refine th_norm ?_
   refine AWp_E rfl ?_
   refine ed (iv ((i : Nat) : Int)) rfl rfl (dv_move rfl) ?_
   refine ed (iv ((i + 1 : Nat) : Int)) rfl rfl (dv_bin rfl rfl (bi_add (by omega))) ?_
   refine ed (iv ((i + 1 : Nat) : Int)) rfl rfl (dv_assign rfl) ?_
   refine E_nil ?_
   have hS := hS.join (f := rowE1 2) (q := (⟨x19, x21, x22⟩ : Row)) 3 5 rfl rfl rfl
   rw [← hx28] at hS
   have hlj : ∀ q ∈ x27, q.xs.length ≤ 1048576 := by
     rw [hx28]
     intro q hq
     rcases List.mem_append.1 hq with hq | hq
     · exact hwl q hq
     · rw [List.mem_singleton.1 hq]; dsimp only; omega
   refine loop_next (I := I10) (m.tn - (i + 1)) (by rw [hm13]; omega) ?_
   rw [hI10]
   refine ⟨i + 1, a25, c26, x27, rfl, (all_c rfl (all_c rfl (all_c rfl (all_c rfl (all_c rfl (all_c rfl (all_c rfl (all_c rfl (all_c rfl (all_c rfl (all_c rfl (all_c rfl all_n)))))))))))), (hS.pick [0, 1, 3, 2, 5] rfl), ?_, ?_, ?_⟩
   · omega
   · rw [hx28, rxs, List.map_append, ← rxs, hw, take_step (map_get (f := Row.xs) hx17)]; simp [*]
   · exact hlj
  ·
   refine ed no rfl rfl (dv_bin rfl rfl (bi_lss_f hc16)) ?_
   refine E_nil ?_
   refine th_norm ?_
   refine AWp_cond (t := false) rfl nofun (fun _ => ?_)
   refine AWp_exit (th_exit (th_exit (bl_exit (?_))))
   refine th_norm ?_
   refine AWp_seq ?_
   refine AWp_E rfl ?_
   refine ed (.agg #[sv a3 x5.length c4, sv wa w.length wc]) rfl rfl (dv_load rfl (ld_boxA (n := 2) (hS.box 3 rfl) rfl rfl (Nat.le_of_ble_eq_true rfl) rfl)) ?_
   refine S_store (i := 0) (yv := .agg #[sv a3 x5.length c4, sv wa w.length wc]) (l' := [sv a3 x5.length c4, sv wa w.length wc]) hS rfl rfl rfl rfl rfl rfl rfl rfl rfl rfl rfl rfl fun H hS => ?_
   refine E_nil ?_
   refine th_norm ?_
   refine AWp_ret (?_)
   refine ret_of ?_
   refine readsRes_of (rs := [.cell 2 39]) (vs := [.agg #[sv a3 x5.length c4, sv wa w.length wc]]) rfl (re_cons (re_cell (p := pt b1 0) rfl (ld_boxA (n := 2) (hS.box 0 rfl) rfl rfl (Nat.le_of_ble_eq_true rfl) rfl)) (re_nil)) rfl ?_
   refine ⟨⟨a3, c4, x5.length, x5, wa, wc, w.length, w⟩, ?_, ?_, ?_, rfl, hS.pick [1, 2, 4] rfl⟩
   · have hti : (rxs m.ts).take i = rxs m.ts := List.take_of_length_le (by rw [rxs, List.length_map]; omega)
     rw [hti] at hw
     simp [LM.d, hx6, hw]
   · exact ⟨rfl, rfl⟩
   · exact hwl
theorem l03Own_ok (b_p b_o : Nat) (b : LB) (H : AH) (hbpv : PV H b_p b_o b.v) (hb : b.ok H) : ACalls Tryz.prog 87 [pt b_p b_o] H
  (fun r H' => ∃ (b_ : LB), b_.d = b.d ∧ (b_.m.ps.length = b_.m.pn ∧ b_.m.ts.length = b_.m.tn) ∧ (∀ q ∈ b_.m.ts, q.xs.length ≤ 1048576) ∧ (b_.ss.length = b_.sn ∧ b_.ws.length = b_.wn) ∧ r = bva b_ ∧ SepL H [sl encV 41 3 b_.m.pa b_.m.pc b_.m.ps, sl encR 53 1 b_.m.ta b_.m.tc b_.m.ts, rowsE 2 b_.m.ts, sl encS 116 4 b_.sa b_.sc b_.ss, sl encF 27 1 b_.wa b_.wc b_.ws] H') := by
 refine ACalls_of Tryz.func87 rfl (Nat.le_of_ble_eq_true rfl) ?_
 obtain ⟨H0, hH0⟩ : ∃ H0, H0 = H := ⟨_, rfl⟩
 have hS : SepL H0 [] H := hH0 ▸ SepL.refl H
 subst hH0
 obtain ⟨⟨hb_1_ps, hb_1_pn, hb_1_pb⟩, hb_1_ts, hb_1_tn, hb_1_tb⟩ := id hb.1
 obtain ⟨⟨hb_ss, hb_sn, hb_sb⟩, hb_ws, hb_wn, hb_wb⟩ := hb.2
 refine AWp_seq ?_
 refine AWp_E rfl ?_
 refine S_box (l := [sv none 0 0, sv none 0 0, sv none 0 0, fl 0, fl 0, sv none 0 0, fl 0, fl 0, fl 0]) hS rfl rfl rfl rfl rfl fun b1 H hS => ?_
 refine E_nil ?_
 refine th_norm ?_
 refine AWp_seq ?_
 refine AWp_E rfl ?_
 refine ed (pt b_p b_o) rfl rfl (dv_move rfl) ?_
 refine ed (pt b_p b_o) rfl rfl (dv_nilCheck rfl) ?_
 refine ed (bva b) rfl rfl (dv_load rfl (ld_pvA (off := 0) (n := 9) (hbpv.keep hS.keep) rfl rfl rfl rfl)) ?_
 refine S_box (l := [sv none 0 0, sv none 0 0, sv none 0 0, fl 0, fl 0, sv none 0 0, fl 0, fl 0, fl 0]) hS rfl rfl rfl rfl rfl fun b2 H hS => ?_
 refine S_store (i := 1) (yv := bva b) (l' := [sv b.m.pa b.m.pn b.m.pc, sv b.m.ta b.m.tn b.m.tc, sv b.sa b.sn b.sc, fl b.film, fl b.bend, sv b.wa b.wn b.wc, fl b.fall.x, fl b.fall.y, fl b.fall.z]) hS rfl rfl rfl rfl rfl rfl rfl rfl rfl rfl rfl rfl fun H hS => ?_
 refine E_nil ?_
 refine th_norm ?_
 refine AWp_seq ?_
 refine AWp_E rfl ?_
 refine ed (pt b_p b_o) rfl rfl (dv_move rfl) ?_
 refine ed (pt b_p b_o) rfl rfl (dv_nilCheck rfl) ?_
 refine ed (pt b_p b_o) rfl rfl (dv_fieldAddr rfl rfl) ?_
 refine E_call (vs := [pt b_p b_o]) rfl rfl rfl rfl rfl rfl rfl (l02Own_ok b_p b_o b.m _ (PV.sub (j := 0) (n := 2) (hbpv.keep hS.keep) rfl rfl) (hb.1.keep hS.keep)) ?_
 rintro _ H ⟨b3, h4, h5, h6, rfl, hQ⟩
 have hdlh4 : b3.ps.length = b.m.ps.length := congrArg (fun d : Msh => d.ps.length) h4
 have hdth4 : (rxs b3.ts).length = (rxs b.m.ts).length := congrArg (fun d : Msh => d.ts.length) h4
 simp only [rxs, List.length_map] at hdth4
 have hS := hS.push hQ
 refine ed (pt b2 0) rfl rfl (dv_fieldAddr rfl rfl) ?_
 refine S_store (i := 1) (yv := mva b3) (l' := [sv b3.pa b3.pn b3.pc, sv b3.ta b3.tn b3.tc, sv b.sa b.sn b.sc, fl b.film, fl b.bend, sv b.wa b.wn b.wc, fl b.fall.x, fl b.fall.y, fl b.fall.z]) hS rfl rfl rfl rfl rfl rfl rfl rfl rfl rfl rfl rfl fun H hS => ?_
 refine E_nil ?_
 refine th_norm ?_
 refine AWp_seq ?_
 refine AWp_E rfl ?_
 refine S_lit (sz := 4) (enc := encS) (xs := ([] : List Spr)) (n := 0) hS rfl rfl rfl rfl rfl rfl rfl rfl fun a7 H hS => ?_
 refine ed (pt b_p b_o) rfl rfl (dv_move rfl) ?_
 refine ed (pt b_p b_o) rfl rfl (dv_nilCheck rfl) ?_
 refine ed (pt b_p (b_o + 2)) rfl rfl (dv_fieldAddr rfl rfl) ?_
 refine ed (sv b.sa b.sn b.sc) rfl rfl (dv_load rfl (ld_pv (off := 2) (hbpv.keep hS.keep) rfl rfl rfl)) ?_
 refine S_append (k := 5) (bytes := 24) (enc := encS) (xs := ([] : List Spr)) (ys := b.ss) hS rfl rfl rfl rfl rfl rfl rfl rfl rfl rfl (fun _ => rfl) (fun _ => rfl) rfl rfl rfl hb_sn (hb_ss.keep hS.keep) (by omega) (by omega) fun a8 c9 x10 H hx11 hn12 hS => ?_
 refine ed (pt b2 2) rfl rfl (dv_fieldAddr rfl rfl) ?_
 refine S_store (i := 1) (yv := sv a8 x10.length c9) (l' := [sv b3.pa b3.pn b3.pc, sv b3.ta b3.tn b3.tc, sv a8 x10.length c9, fl b.film, fl b.bend, sv b.wa b.wn b.wc, fl b.fall.x, fl b.fall.y, fl b.fall.z]) hS rfl rfl rfl rfl rfl rfl rfl rfl rfl rfl rfl rfl fun H hS => ?_
 refine E_nil ?_
 refine th_norm ?_
 refine AWp_seq ?_
 refine AWp_E rfl ?_
 refine S_lit (sz := 1) (enc := encF) (xs := ([] : List Nat)) (n := 0) hS rfl rfl rfl rfl rfl rfl rfl rfl fun a13 H hS => ?_
 refine ed (pt b_p b_o) rfl rfl (dv_move rfl) ?_
 refine ed (pt b_p b_o) rfl rfl (dv_nilCheck rfl) ?_
 refine ed (pt b_p (b_o + 5)) rfl rfl (dv_fieldAddr rfl rfl) ?_
 refine ed (sv b.wa b.wn b.wc) rfl rfl (dv_load rfl (ld_pv (off := 5) (hbpv.keep hS.keep) rfl rfl rfl)) ?_
 refine S_append (k := 6) (bytes := 4) (enc := encF) (xs := ([] : List Nat)) (ys := b.ws) hS rfl rfl rfl rfl rfl rfl rfl rfl rfl rfl (fun _ => rfl) (fun _ => rfl) rfl rfl rfl hb_wn (hb_ws.keep hS.keep) (by omega) (by omega) fun a14 c15 x16 H hx17 hn18 hS => ?_
 refine ed (pt b2 5) rfl rfl (dv_fieldAddr rfl rfl) ?_
 refine S_store (i := 1) (yv := sv a14 x16.length c15) (l' := [sv b3.pa b3.pn b3.pc, sv b3.ta b3.tn b3.tc, sv a8 x10.length c9, fl b.film, fl b.bend, sv a14 x16.length c15, fl b.fall.x, fl b.fall.y, fl b.fall.z]) hS rfl rfl rfl rfl rfl rfl rfl rfl rfl rfl rfl rfl fun H hS => ?_
 refine E_nil ?_
 refine th_norm ?_
 refine AWp_seq ?_
 refine AWp_E rfl ?_
 refine ed (.agg #[sv b3.pa b3.pn b3.pc, sv b3.ta b3.tn b3.tc, sv a8 x10.length c9, fl b.film, fl b.bend, sv a14 x16.length c15, fl b.fall.x, fl b.fall.y, fl b.fall.z]) rfl rfl (dv_load rfl (ld_boxA (n := 9) (hS.box 1 rfl) rfl rfl (Nat.le_of_ble_eq_true rfl) rfl)) ?_
 refine S_store (i := 0) (yv := .agg #[sv b3.pa b3.pn b3.pc, sv b3.ta b3.tn b3.tc, sv a8 x10.length c9, fl b.film, fl b.bend, sv a14 x16.length c15, fl b.fall.x, fl b.fall.y, fl b.fall.z]) (l' := [sv b3.pa b3.pn b3.pc, sv b3.ta b3.tn b3.tc, sv a8 x10.length c9, fl b.film, fl b.bend, sv a14 x16.length c15, fl b.fall.x, fl b.fall.y, fl b.fall.z]) hS rfl rfl rfl rfl rfl rfl rfl rfl rfl rfl rfl rfl fun H hS => ?_
 refine E_nil ?_
 refine th_norm ?_
 refine AWp_ret (?_)
 refine ret_of ?_
 refine readsRes_of (rs := [.cell 2 43]) (vs := [.agg #[sv b3.pa b3.pn b3.pc, sv b3.ta b3.tn b3.tc, sv a8 x10.length c9, fl b.film, fl b.bend, sv a14 x16.length c15, fl b.fall.x, fl b.fall.y, fl b.fall.z]]) rfl (re_cons (re_cell (p := pt b1 0) rfl (ld_boxA (n := 9) (hS.box 0 rfl) rfl rfl (Nat.le_of_ble_eq_true rfl) rfl)) (re_nil)) rfl ?_
 refine ⟨⟨b3, a8, c9, x10.length, x10, b.film, b.bend, a14, c15, x16.length, x16, b.fall⟩, ?_, ?_, ?_, ?_, rfl, hS.pick [2, 3, 4, 5, 6] rfl⟩
 · simp_all [LB.d, LM.d]
 · simp_all
 · assumption
 · simp_all
theorem l03Parts_ok (b_p b_o : Nat) (b : LB) (H : AH) (hbpv : PV H b_p b_o b.v) (hb : b.ok H) (hb0 : Bod.ok b.d) : ACalls Tryz.prog 90 [pt b_p b_o] H
  (fun r H' => ∃ (x_a : Option Addr), ∃ (x_n : Nat), ∃ (x_c : Nat), ∃ (x_ : List (Nat)), x_.length = 4 ∧ x_ = partsD b.d ∧ x_.length = x_n ∧ r = sv x_a x_n x_c ∧ SepL H [sl encF 27 1 x_a x_c x_] H') := by
 refine ACalls_of Tryz.func90 rfl (Nat.le_of_ble_eq_true rfl) ?_
 obtain ⟨H0, hH0⟩ : ∃ H0, H0 = H := ⟨_, rfl⟩
 have hS : SepL H0 [] H := hH0 ▸ SepL.refl H
 subst hH0
 obtain ⟨⟨hb_1_ps, hb_1_pn, hb_1_pb⟩, hb_1_ts, hb_1_tn, hb_1_tb⟩ := id hb.1
 obtain ⟨⟨hb_ss, hb_sn, hb_sb⟩, hb_ws, hb_wn, hb_wb⟩ := hb.2
 have hbm : meshP b.m.ps.length (rxs b.m.ts) := hb0.1
 have hbw : b.ws.length = b.m.ps.length := hb0.2.2.1
 have hbss : b.ss.length ≤ 200 := hb0.2.1
 have hbn : b.m.ps.length ≤ 64 := hbm.1
 have hhl := hinges_le b.m.ps.length (rxs b.m.ts) hbn
 refine AWp_seq ?_
 refine AWp_E rfl ?_
 refine ed (sv none 0 0) rfl rfl (dv_assign rfl) ?_
 refine E_nil ?_
 refine th_norm ?_
 refine AWp_seq ?_
 refine AWp_E rfl ?_
 refine S_make (sz := 1) (enc := encF) (z := (0 : Nat)) hS rfl rfl rfl (dn_make (nb := 4) (n := 4) (zs := [fl 0]) rfl rfl rfl rfl rfl rfl rfl (by omega) (by omega)) rfl rfl (by unfold maxLen; omega) fun a1 x2 H hx3 hn4 hS => ?_
 refine ed (sv a1 4 4) rfl rfl (dv_assign rfl) ?_
 refine E_nil ?_
 refine th_norm ?_
 refine AWp_seq ?_
 refine AWp_E rfl ?_
 refine ed (pt b_p b_o) rfl rfl (dv_move rfl) ?_
 refine ed (pt b_p b_o) rfl rfl (dv_nilCheck rfl) ?_
 refine ed (pt b_p b_o) rfl rfl (dv_fieldAddr rfl rfl) ?_
 refine ed (pt b_p b_o) rfl rfl (dv_assign rfl) ?_
 refine E_nil ?_
 refine th_norm ?_
 refine AWp_seq ?_
 refine AWp_seq ?_
 refine AWp_E rfl ?_
 refine ed (pt b_p b_o) rfl rfl (dv_move rfl) ?_
 refine ed (pt b_p b_o) rfl rfl (dv_nilCheck rfl) ?_
 refine ed (pt b_p (b_o + 2)) rfl rfl (dv_fieldAddr rfl rfl) ?_
 refine ed (sv b.sa b.sn b.sc) rfl rfl (dv_load rfl (ld_pv (off := 2) (hbpv.keep hS.keep) rfl rfl rfl)) ?_
 refine ed (iv ((b.sn : Nat) : Int)) rfl rfl (dv_len rfl rfl rfl rfl rfl) ?_
 refine ed (iv 0) rfl rfl (dv_move rfl) ?_
 refine E_nil ?_
 refine th_norm ?_
 refine AWp_block ?_
 obtain ⟨I5, hI5⟩ : ∃ I : Nat → Env → AH → Prop, ∀ m_ e_ Hl, I m_ e_ Hl = (∃ (i : Nat) (o : List (Nat)), m_ = b.sn - i ∧ AllE [(0, pt b_p b_o), (2, sv none 0 0), (3, sv a1 4 4), (4, pt b_p b_o), (13, sv a1 4 4), (14, pt b_p b_o), (15, pt b_p b_o), (16, pt b_p b_o), (17, pt b_p b_o), (18, pt b_p b_o), (19, pt b_p (b_o + 2)), (20, sv b.sa b.sn b.sc), (21, iv ((b.sn : Nat) : Int)), (22, iv ((i : Nat) : Int))] e_ ∧ SepL H0 [sl encF 27 1 a1 4 o] Hl ∧ o.length = 4 ∧ (i ≤ b.sn) ∧ (o = [iter (part0 b.d) 0 i, 0, 0, 0])) := ⟨_, fun _ _ _ => rfl⟩
 refine AWp_loop I5 (b.sn - (0)) ?_ ?_
 ·
  rw [hI5]
  refine ⟨0, x2, rfl, (all_c rfl (all_c rfl (all_c rfl (all_c rfl (all_c rfl (all_c rfl (all_c rfl (all_c rfl (all_c rfl (all_c rfl (all_c rfl (all_c rfl (all_c rfl (all_c rfl all_n)))))))))))))), hS, hn4, ?_, ?_⟩
  · omega
  · rw [hx3]; rfl
 ·
  intro m6 _ H hl7
  rw [hI5] at hl7
  obtain ⟨i, o, hm8, he9, hS, ho_n, hi, ho⟩ := hl7
  obtain ⟨e10, rfl⟩ := he9.ex
  refine AWp_seq ?_
  refine AWp_E rfl ?_
  rcases Decidable.em (((i : Nat) : Int) < ((b.sn : Nat) : Int)) with hc11 | hc11
  ·
   refine ed yes rfl rfl (dv_bin rfl rfl (bi_lss_t hc11)) ?_
   refine E_nil ?_
   refine th_norm ?_
   refine AWp_seq ?_
   refine AWp_cond (t := true) rfl (fun _ => ?_) nofun
   refine AWp_skip ?_
   refine th_norm ?_
   refine AWp_seq ?_
   refine AWp_block ?_
   refine AWp_seq ?_
   refine AWp_E rfl ?_
   refine ed (iv ((i : Nat) : Int)) rfl rfl (dv_move rfl) ?_
   refine ed (iv ((i : Nat) : Int)) rfl rfl (dv_assign rfl) ?_
   refine E_nil ?_
   refine th_norm ?_
   refine AWp_seq ?_
   refine AWp_E rfl ?_
   refine ed (pt b_p b_o) rfl rfl (dv_move rfl) ?_
   refine ed (pt b_p b_o) rfl rfl (dv_nilCheck rfl) ?_
   refine ed (pt b_p (b_o + 2)) rfl rfl (dv_fieldAddr rfl rfl) ?_
   refine ed (sv b.sa b.sn b.sc) rfl rfl (dv_load rfl (ld_pv (off := 2) (hbpv.keep hS.keep) rfl rfl rfl)) ?_
   refine ed (iv ((i : Nat) : Int)) rfl rfl (dv_move rfl) ?_
   obtain ⟨x12, hx12⟩ := get_el (xs := b.ss) (i := i) (by omega)
   have hsk : sprP b.m.ps.length x12 := hb0.2.2.2 _ (List.mem_of_getElem? hx12)
   have hsk2 := hsk
   unfold sprP inP at hsk2
   refine ed (sp b.sa (i * 4)) rfl rfl (dv_indexAddr (a := sv b.sa b.sn b.sc) (b := iv ((i : Nat) : Int)) rfl rfl (ix_sls (n := b.sn) (i := i) (hb_ss.keep hS.keep) hx12 rfl rfl rfl (by omega))) ?_
   refine ed (.agg #[iv x12.A, iv x12.B, fl x12.Long, fl x12.Stiff]) rfl rfl (dv_load rfl (ld_slsA (sz := 4) (m := 4) (ys := [iv x12.A, iv x12.B, fl x12.Long, fl x12.Stiff]) (off := 0) (hb_ss.keep hS.keep) hx12 (fun _ => rfl) rfl rfl (Nat.le_of_ble_eq_true rfl) rfl)) ?_
   refine S_box (l := [iv 0, iv 0, fl 0, fl 0]) hS rfl rfl rfl rfl rfl fun b13 H hS => ?_
   refine S_store (i := 1) (yv := .agg #[iv x12.A, iv x12.B, fl x12.Long, fl x12.Stiff]) (l' := [iv x12.A, iv x12.B, fl x12.Long, fl x12.Stiff]) hS rfl rfl rfl rfl rfl rfl rfl rfl rfl rfl rfl rfl fun H hS => ?_
   refine E_nil ?_
   refine th_norm ?_
   refine AWp_seq ?_
   have hR := hS.pushes
   have hKb := hS.keep
   have hB := fun Hc (hc : Keep _ Hc) => hR [] Hc (.base hc)
   refine AWp_D0 rfl (by decide +kernel) fun hM => ?_
   refine wd (pt b_p b_o) rfl rfl (fun _ hc => dv_move rfl) ?_
   refine wd (pt b_p b_o) rfl rfl (fun _ hc => dv_nilCheck rfl) ?_
   refine wd (pt b_p b_o) rfl rfl (fun _ hc => dv_fieldAddr rfl rfl) ?_
   refine wd (sv b.m.pa b.m.pn b.m.pc) rfl rfl (fun _ hc => dv_load rfl (ld_pv (off := 0) (hbpv.keep (hKb.trans hc)) rfl rfl rfl)) ?_
   refine wd (pt b13 1) rfl rfl (fun _ hc => dv_fieldAddr rfl rfl) ?_
   refine wd (iv x12.B) rfl rfl (fun _ hc => dv_load rfl (ld_box ((hB _ hc).box 1 rfl) rfl rfl rfl)) ?_
   obtain ⟨x14, hx14⟩ := get_el (xs := b.m.ps) (i := (x12.B).toNat) (by omega)
   refine wd (sp b.m.pa (((x12.B).toNat) * 3)) rfl rfl (fun _ hc => dv_indexAddr (a := sv b.m.pa b.m.pn b.m.pc) (b := iv x12.B) rfl rfl (ix_sls (n := b.m.pn) (i := ((x12.B).toNat)) (hb_1_ps.keep (hKb.trans hc)) hx14 rfl rfl (by omega) (by omega))) ?_
   refine wd (va x14) rfl rfl (fun _ hc => dv_load rfl (ld_slsA (sz := 3) (m := 3) (ys := [fl x14.x, fl x14.y, fl x14.z]) (off := 0) (hb_1_ps.keep (hKb.trans hc)) hx14 (fun _ => rfl) rfl rfl (Nat.le_of_ble_eq_true rfl) rfl)) ?_
   refine wd (pt b_p b_o) rfl rfl (fun _ hc => dv_move rfl) ?_
   refine wd (pt b_p b_o) rfl rfl (fun _ hc => dv_nilCheck rfl) ?_
   refine wd (pt b_p b_o) rfl rfl (fun _ hc => dv_fieldAddr rfl rfl) ?_
   refine wd (sv b.m.pa b.m.pn b.m.pc) rfl rfl (fun _ hc => dv_load rfl (ld_pv (off := 0) (hbpv.keep (hKb.trans hc)) rfl rfl rfl)) ?_
   refine wd (pt b13 0) rfl rfl (fun _ hc => dv_fieldAddr rfl rfl) ?_
   refine wd (iv x12.A) rfl rfl (fun _ hc => dv_load rfl (ld_box ((hB _ hc).box 1 rfl) rfl rfl rfl)) ?_
   obtain ⟨x15, hx15⟩ := get_el (xs := b.m.ps) (i := (x12.A).toNat) (by omega)
   refine wd (sp b.m.pa (((x12.A).toNat) * 3)) rfl rfl (fun _ hc => dv_indexAddr (a := sv b.m.pa b.m.pn b.m.pc) (b := iv x12.A) rfl rfl (ix_sls (n := b.m.pn) (i := ((x12.A).toNat)) (hb_1_ps.keep (hKb.trans hc)) hx15 rfl rfl (by omega) (by omega))) ?_
   refine wd (va x15) rfl rfl (fun _ hc => dv_load rfl (ld_slsA (sz := 3) (m := 3) (ys := [fl x15.x, fl x15.y, fl x15.z]) (off := 0) (hb_1_ps.keep (hKb.trans hc)) hx15 (fun _ => rfl) rfl rfl (Nat.le_of_ble_eq_true rfl) rfl)) ?_
   refine W_call (vs := [va x14, va x15]) rfl rfl rfl rfl rfl rfl rfl (l01Less_ok x14 x15 _) ?_
   rintro _ H ⟨v16, rfl, rfl, hQ⟩
   have hM := hM.up hQ.keep
   refine ⟨hM.keep, ?_⟩
   refine W_call (vs := [.agg #[fl ((vsub x14 x15).x), fl ((vsub x14 x15).y), fl ((vsub x14 x15).z)]]) rfl rfl rfl rfl rfl rfl rfl (l01Long_ok (vsub x14 x15) _) ?_
   rintro _ H ⟨v17, rfl, rfl, hQ⟩
   have hM := hM.up hQ.keep
   refine ⟨hM.keep, ?_⟩
   refine wd (pt b13 2) rfl rfl (fun _ hc => dv_fieldAddr rfl rfl) ?_
   refine wd (fl x12.Long) rfl rfl (fun _ hc => dv_load rfl (ld_box ((hB _ hc).box 1 rfl) rfl rfl rfl)) ?_
   refine wd (fl (fop .sub .f32 (vlong (vsub x14 x15)) x12.Long)) rfl rfl (fun _ hc => dv_bin rfl rfl rfl) ?_
   refine wd (fl (fop .sub .f32 (vlong (vsub x14 x15)) x12.Long)) rfl rfl (fun _ hc => dv_assign rfl) ?_
   have hS := hR _ _ hM
   refine W_nil ?_
   refine th_norm ?_
   have hR := hS.pushes
   have hKb := hS.keep
   have hB := fun Hc (hc : Keep _ Hc) => hR [] Hc (.base hc)
   refine AWp_D0 rfl (by decide +kernel) fun hM => ?_
   refine wd (sv a1 4 4) rfl rfl (fun _ hc => dv_move rfl) ?_
   obtain ⟨x18, hx18⟩ := get_el (xs := o) (i := 0) (by omega)
   refine wd (sp a1 (0 * 1)) rfl rfl (fun _ hc => dv_indexAddr (a := sv a1 4 4) (b := iv 0) rfl rfl (ix_sls (n := 4) (i := 0) ((hB _ hc).sls 0 rfl) hx18 rfl rfl rfl (by omega))) ?_
   refine wd (fl x18) rfl rfl (fun _ hc => dv_load rfl (ld_sls (sz := 1) (off := 0) ((hB _ hc).sls 0 rfl) hx18 (fun _ => rfl) rfl rfl rfl)) ?_
   refine wd (pt b13 3) rfl rfl (fun _ hc => dv_fieldAddr rfl rfl) ?_
   refine wd (fl x12.Stiff) rfl rfl (fun _ hc => dv_load rfl (ld_box ((hB _ hc).box 1 rfl) rfl rfl rfl)) ?_
   refine wd (fl (fop .mul .f32 1056964608 x12.Stiff)) rfl rfl (fun _ hc => dv_bin rfl rfl rfl) ?_
   refine wd (fl (fop .sub .f32 (vlong (vsub x14 x15)) x12.Long)) rfl rfl (fun _ hc => dv_move rfl) ?_
   refine wd (fl (fop .sub .f32 (vlong (vsub x14 x15)) x12.Long)) rfl rfl (fun _ hc => dv_move rfl) ?_
   refine wd (fl (fop .mul .f32 (fop .sub .f32 (vlong (vsub x14 x15)) x12.Long) (fop .sub .f32 (vlong (vsub x14 x15)) x12.Long))) rfl rfl (fun _ hc => dv_bin rfl rfl rfl) ?_
   refine wd (fl (fop .mul .f32 (fop .mul .f32 1056964608 x12.Stiff) (fop .mul .f32 (fop .sub .f32 (vlong (vsub x14 x15)) x12.Long) (fop .sub .f32 (vlong (vsub x14 x15)) x12.Long)))) rfl rfl (fun _ hc => dv_bin rfl rfl rfl) ?_
   refine wd (fl (fop .add .f32 x18 (fop .mul .f32 (fop .mul .f32 1056964608 x12.Stiff) (fop .mul .f32 (fop .sub .f32 (vlong (vsub x14 x15)) x12.Long) (fop .sub .f32 (vlong (vsub x14 x15)) x12.Long))))) rfl rfl (fun _ hc => dv_bin rfl rfl rfl) ?_
   refine wd (sp a1 (0 * 1)) rfl rfl (fun _ hc => dv_indexAddr (a := sv a1 4 4) (b := iv 0) rfl rfl (ix_sls (n := 4) (i := 0) ((hB _ hc).sls 0 rfl) hx18 rfl rfl rfl (by omega))) ?_
   have hS := hR _ _ hM
   refine D_storeS (k := 0) (i := 0) (z' := fop .add .f32 x18 (fop .mul .f32 (fop .mul .f32 1056964608 x12.Stiff) (fop .mul .f32 (fop .sub .f32 (vlong (vsub x14 x15)) x12.Long) (fop .sub .f32 (vlong (vsub x14 x15)) x12.Long)))) (off := 0) (yv := fl (fop .add .f32 x18 (fop .mul .f32 (fop .mul .f32 1056964608 x12.Stiff) (fop .mul .f32 (fop .sub .f32 (vlong (vsub x14 x15)) x12.Long) (fop .sub .f32 (vlong (vsub x14 x15)) x12.Long))))) hS rfl rfl rfl rfl rfl (fun _ => rfl) rfl rfl rfl hx18 rfl rfl rfl rfl fun H hS => ?_
   have hx19 := set_get (z := fop .add .f32 x18 (fop .mul .f32 (fop .mul .f32 1056964608 x12.Stiff) (fop .mul .f32 (fop .sub .f32 (vlong (vsub x14 x15)) x12.Long) (fop .sub .f32 (vlong (vsub x14 x15)) x12.Long)))) hx18
   refine bl_norm ?_
   refine th_norm ?_
   refine AWp_E rfl ?_
   refine ed (iv ((i + 1 : Nat) : Int)) rfl rfl (dv_bin rfl rfl (bi_add (by omega))) ?_
   refine ed (iv ((i + 1 : Nat) : Int)) rfl rfl (dv_move rfl) ?_
   refine E_nil ?_
   refine loop_next (I := I5) (b.sn - (i + 1)) (by rw [hm8]; omega) ?_
   rw [hI5]
   refine ⟨i + 1, o.set 0 (fop .add .f32 x18 (fop .mul .f32 (fop .mul .f32 1056964608 x12.Stiff) (fop .mul .f32 (fop .sub .f32 (vlong (vsub x14 x15)) x12.Long) (fop .sub .f32 (vlong (vsub x14 x15)) x12.Long)))), rfl, (all_c rfl (all_c rfl (all_c rfl (all_c rfl (all_c rfl (all_c rfl (all_c rfl (all_c rfl (all_c rfl (all_c rfl (all_c rfl (all_c rfl (all_c rfl (all_c rfl all_n)))))))))))))), (hS.pick [0] rfl), (by rw [List.length_set]; exact ho_n), ?_, ?_⟩
   · omega
   · rw [ho] at hx18
     simp only [List.getElem?_cons_zero, List.getElem?_cons_succ, Option.some.injEq] at hx18
     subst hx18
     rw [ho]
     simp only [List.set_cons_zero, List.set_cons_succ, iter, part0, alongD, LB.d, LM.d, rxs, Msh.hinges, gD s0 hx12, at3_of hx14, at3_of hx15, gD 0 hx19] <;> first | rfl | (simp only [*]; done)
  ·
   refine ed no rfl rfl (dv_bin rfl rfl (bi_lss_f hc11)) ?_
   refine E_nil ?_
   refine th_norm ?_
   refine AWp_seq ?_
   refine AWp_cond (t := false) rfl nofun (fun _ => ?_)
   refine AWp_exit (th_exit (th_exit (bl_exit (?_))))
   refine th_norm ?_
   refine AWp_seq ?_
   refine AWp_seq ?_
   refine AWp_E rfl ?_
   refine ed (pt b_p b_o) rfl rfl (dv_move rfl) ?_
   refine ed (pt b_p b_o) rfl rfl (dv_nilCheck rfl) ?_
   refine ed (pt b_p (b_o + 1)) rfl rfl (dv_fieldAddr rfl rfl) ?_
   refine ed (sv b.m.ta b.m.tn b.m.tc) rfl rfl (dv_load rfl (ld_pv (off := 1) (hbpv.keep hS.keep) rfl rfl rfl)) ?_
   refine ed (iv ((b.m.tn : Nat) : Int)) rfl rfl (dv_len rfl rfl rfl rfl rfl) ?_
   refine ed (iv 0) rfl rfl (dv_move rfl) ?_
   refine E_nil ?_
   refine th_norm ?_
   refine AWp_block ?_
   obtain ⟨I20, hI20⟩ : ∃ I : Nat → Env → AH → Prop, ∀ m_ e_ Hl, I m_ e_ Hl = (∃ (j : Nat) (o : List (Nat)), m_ = b.m.tn - j ∧ AllE [(0, pt b_p b_o), (2, sv none 0 0), (3, sv a1 4 4), (4, pt b_p b_o), (13, sv a1 4 4), (14, pt b_p b_o), (15, pt b_p b_o), (16, pt b_p b_o), (17, pt b_p b_o), (18, pt b_p b_o), (19, pt b_p (b_o + 2)), (20, sv b.sa b.sn b.sc), (21, iv ((b.sn : Nat) : Int)), (22, iv ((i : Nat) : Int)), (23, no), (66, pt b_p b_o), (67, pt b_p b_o), (68, pt b_p (b_o + 1)), (69, sv b.m.ta b.m.tn b.m.tc), (70, iv ((b.m.tn : Nat) : Int)), (71, iv ((j : Nat) : Int))] e_ ∧ SepL H0 [sl encF 27 1 a1 4 o] Hl ∧ o.length = 4 ∧ (j ≤ b.m.tn) ∧ (o = [iter (part0 b.d) 0 b.ss.length, iter (part1 b.d) 0 j, 0, 0])) := ⟨_, fun _ _ _ => rfl⟩
   refine AWp_loop I20 (b.m.tn - (0)) ?_ ?_
   ·
    rw [hI20]
    refine ⟨0, o, rfl, (all_c rfl (all_c rfl (all_c rfl (all_c rfl (all_c rfl (all_c rfl (all_c rfl (all_c rfl (all_c rfl (all_c rfl (all_c rfl (all_c rfl (all_c rfl (all_c rfl (all_c rfl (all_c rfl (all_c rfl (all_c rfl (all_c rfl (all_c rfl (all_c rfl all_n))))))))))))))))))))), hS, ho_n, ?_, ?_⟩
    · omega
    · have hii : i = b.ss.length := by omega
      rw [ho, hii]; rfl
   ·
    intro m21 _ H hl22
    rw [hI20] at hl22
    obtain ⟨j, o, hm23, he24, hS, ho_n, hi, ho⟩ := hl22
    obtain ⟨e25, rfl⟩ := he24.ex
    refine AWp_seq ?_
    refine AWp_E rfl ?_
    rcases Decidable.em (((j : Nat) : Int) < ((b.m.tn : Nat) : Int)) with hc26 | hc26
    ·
     refine ed yes rfl rfl (dv_bin rfl rfl (bi_lss_t hc26)) ?_
     refine E_nil ?_
     refine th_norm ?_
     refine AWp_seq ?_
     refine AWp_cond (t := true) rfl (fun _ => ?_) nofun
     refine AWp_skip ?_
     refine th_norm ?_
     refine AWp_seq ?_
     refine AWp_block ?_
     refine AWp_seq ?_
     refine AWp_E rfl ?_
     refine ed (iv ((j : Nat) : Int)) rfl rfl (dv_move rfl) ?_
     refine ed (iv ((j : Nat) : Int)) rfl rfl (dv_assign rfl) ?_
     refine E_nil ?_
     refine th_norm ?_
     have hR := hS.pushes
     have hKb := hS.keep
     have hB := fun Hc (hc : Keep _ Hc) => hR [] Hc (.base hc)
     refine AWp_D0 rfl (by decide +kernel) fun hM => ?_
     refine wd (sv a1 4 4) rfl rfl (fun _ hc => dv_move rfl) ?_
     obtain ⟨x27, hx27⟩ := get_el (xs := o) (i := 1) (by omega)
     refine wd (sp a1 (1 * 1)) rfl rfl (fun _ hc => dv_indexAddr (a := sv a1 4 4) (b := iv 1) rfl rfl (ix_sls (n := 4) (i := 1) ((hB _ hc).sls 0 rfl) hx27 rfl rfl rfl (by omega))) ?_
     refine wd (fl x27) rfl rfl (fun _ hc => dv_load rfl (ld_sls (sz := 1) (off := 0) ((hB _ hc).sls 0 rfl) hx27 (fun _ => rfl) rfl rfl rfl)) ?_
     refine wd (pt b_p b_o) rfl rfl (fun _ hc => dv_move rfl) ?_
     refine wd (pt b_p b_o) rfl rfl (fun _ hc => dv_nilCheck rfl) ?_
     refine wd (pt b_p (b_o + 3)) rfl rfl (fun _ hc => dv_fieldAddr rfl rfl) ?_
     refine wd (fl b.film) rfl rfl (fun _ hc => dv_load rfl (ld_pv (off := 3) (hbpv.keep (hKb.trans hc)) rfl rfl rfl)) ?_
     refine wd (pt b_p b_o) rfl rfl (fun _ hc => dv_move rfl) ?_
     refine wd (pt b_p b_o) rfl rfl (fun _ hc => dv_move rfl) ?_
     refine wd (pt b_p b_o) rfl rfl (fun _ hc => dv_nilCheck rfl) ?_
     refine wd (pt b_p (b_o + 1)) rfl rfl (fun _ hc => dv_fieldAddr rfl rfl) ?_
     refine wd (sv b.m.ta b.m.tn b.m.tc) rfl rfl (fun _ hc => dv_load rfl (ld_pv (off := 1) (hbpv.keep (hKb.trans hc)) rfl rfl rfl)) ?_
     refine wd (iv ((j : Nat) : Int)) rfl rfl (fun _ hc => dv_move rfl) ?_
     obtain ⟨x28, hx28⟩ := get_el (xs := b.m.ts) (i := j) (by omega)
     have hv29 := hb_1_ts.el hx28
     have hv29l := hv29.2
     have htk := meshP_row hbm hx28
     have htl := htk.1
     refine wd (sp b.m.ta (j * 1)) rfl rfl (fun _ hc => dv_indexAddr (a := sv b.m.ta b.m.tn b.m.tc) (b := iv ((j : Nat) : Int)) rfl rfl (ix_sls (n := b.m.tn) (i := j) (hb_1_ts.1.keep (hKb.trans hc)) hx28 rfl rfl rfl (by omega))) ?_
     refine wd (sv x28.a x28.xs.length x28.c) rfl rfl (fun _ hc => dv_load rfl (ld_sls (sz := 1) (off := 0) (hb_1_ts.1.keep (hKb.trans hc)) hx28 (fun _ => rfl) rfl rfl rfl)) ?_
     refine W_call (vs := [pt b_p b_o, sv x28.a x28.xs.length x28.c]) rfl rfl rfl rfl rfl rfl rfl (l03Normal_ok b_p b_o b.m x28.a x28.xs.length x28.c x28.xs _ (PV.sub (j := 0) (n := 2) (hbpv.keep (hKb.trans hM.keep)) rfl rfl) (hb.1.keep (hKb.trans hM.keep)) ⟨(hv29.1.keep (hKb.trans hM.keep)), rfl, hv29.2⟩ (by first | assumption | omega | (simp only [*]; assumption) | (simp_all; done))) ?_
     rintro _ H ⟨v30, rfl, rfl, hQ⟩
     have hM := hM.up hQ.keep
     refine ⟨hM.keep, ?_⟩
     refine W_call (vs := [.agg #[fl ((normalD b.m.ps x28.xs).x), fl ((normalD b.m.ps x28.xs).y), fl ((normalD b.m.ps x28.xs).z)]]) rfl rfl rfl rfl rfl rfl rfl (l01Long_ok (normalD b.m.ps x28.xs) _) ?_
     rintro _ H ⟨v31, rfl, rfl, hQ⟩
     have hM := hM.up hQ.keep
     refine ⟨hM.keep, ?_⟩
     refine wd (fl (fop .mul .f32 1056964608 (vlong (normalD b.m.ps x28.xs)))) rfl rfl (fun _ hc => dv_bin rfl rfl rfl) ?_
     refine wd (fl (fop .mul .f32 b.film (fop .mul .f32 1056964608 (vlong (normalD b.m.ps x28.xs))))) rfl rfl (fun _ hc => dv_bin rfl rfl rfl) ?_
     refine wd (fl (fop .add .f32 x27 (fop .mul .f32 b.film (fop .mul .f32 1056964608 (vlong (normalD b.m.ps x28.xs)))))) rfl rfl (fun _ hc => dv_bin rfl rfl rfl) ?_
     refine wd (sp a1 (1 * 1)) rfl rfl (fun _ hc => dv_indexAddr (a := sv a1 4 4) (b := iv 1) rfl rfl (ix_sls (n := 4) (i := 1) ((hB _ hc).sls 0 rfl) hx27 rfl rfl rfl (by omega))) ?_
     have hS := hR _ _ hM
     refine D_storeS (k := 0) (i := 1) (z' := fop .add .f32 x27 (fop .mul .f32 b.film (fop .mul .f32 1056964608 (vlong (normalD b.m.ps x28.xs))))) (off := 0) (yv := fl (fop .add .f32 x27 (fop .mul .f32 b.film (fop .mul .f32 1056964608 (vlong (normalD b.m.ps x28.xs)))))) hS rfl rfl rfl rfl rfl (fun _ => rfl) rfl rfl rfl hx27 rfl rfl rfl rfl fun H hS => ?_
     have hx32 := set_get (z := fop .add .f32 x27 (fop .mul .f32 b.film (fop .mul .f32 1056964608 (vlong (normalD b.m.ps x28.xs))))) hx27
     refine bl_norm ?_
     refine th_norm ?_
     refine AWp_E rfl ?_
     refine ed (iv ((j + 1 : Nat) : Int)) rfl rfl (dv_bin rfl rfl (bi_add (by omega))) ?_
     refine ed (iv ((j + 1 : Nat) : Int)) rfl rfl (dv_move rfl) ?_
     refine E_nil ?_
     refine loop_next (I := I20) (b.m.tn - (j + 1)) (by rw [hm23]; omega) ?_
     rw [hI20]
     refine ⟨j + 1, o.set 1 (fop .add .f32 x27 (fop .mul .f32 b.film (fop .mul .f32 1056964608 (vlong (normalD b.m.ps x28.xs))))), rfl, (all_c rfl (all_c rfl (all_c rfl (all_c rfl (all_c rfl (all_c rfl (all_c rfl (all_c rfl (all_c rfl (all_c rfl (all_c rfl (all_c rfl (all_c rfl (all_c rfl (all_c rfl (all_c rfl (all_c rfl (all_c rfl (all_c rfl (all_c rfl (all_c rfl all_n))))))))))))))))))))), hS, (by rw [List.length_set]; exact ho_n), ?_, ?_⟩
     · omega
     · rw [ho] at hx27
       simp only [List.getElem?_cons_zero, List.getElem?_cons_succ, Option.some.injEq] at hx27
       subst hx27
       rw [ho]
       simp only [List.set_cons_zero, List.set_cons_succ, iter, part1, alongD, LB.d, LM.d, rxs, Msh.hinges, gD [] (map_get (f := Row.xs) hx28), gD 0 hx32] <;> first | rfl | (simp only [*]; done)
    ·
     refine ed no rfl rfl (dv_bin rfl rfl (bi_lss_f hc26)) ?_
     refine E_nil ?_
     refine th_norm ?_
     refine AWp_seq ?_
     refine AWp_cond (t := false) rfl nofun (fun _ => ?_)
     refine AWp_exit (th_exit (th_exit (bl_exit (?_))))
     refine th_norm ?_
     refine AWp_seq ?_
     refine AWp_E rfl ?_
     refine ed (pt b_p b_o) rfl rfl (dv_move rfl) ?_
     refine E_call (vs := [pt b_p b_o]) rfl rfl rfl rfl rfl rfl rfl (l03Hinges_ok b_p b_o b.m _ (PV.sub (j := 0) (n := 2) (hbpv.keep hS.keep) rfl rfl) (hb.1.keep hS.keep) (by first | assumption | omega | (simp only [*]; assumption) | (simp_all; done))) ?_
     rintro _ H ⟨x33, x34, x35, x36, h37, rfl, h38, rfl, hQ⟩
     have hS := hS.push hQ
     refine ed (sv x33 x36.length x35) rfl rfl (dv_assign rfl) ?_
     refine E_nil ?_
     refine th_norm ?_
     refine AWp_seq ?_
     refine AWp_seq ?_
     refine AWp_E rfl ?_
     refine ed (sv x33 x36.length x35) rfl rfl (dv_move rfl) ?_
     refine ed (iv ((x36.length : Nat) : Int)) rfl rfl (dv_len rfl rfl rfl rfl rfl) ?_
     refine ed (iv 0) rfl rfl (dv_move rfl) ?_
     refine E_nil ?_
     refine th_norm ?_
     refine AWp_block ?_
     have hqh : x36.length = (hingesD b.m.ps.length (rxs b.m.ts)).length := by simpa [rxs] using congrArg List.length h37
     obtain ⟨I39, hI39⟩ : ∃ I : Nat → Env → AH → Prop, ∀ m_ e_ Hl, I m_ e_ Hl = (∃ (k : Nat) (o : List (Nat)), m_ = x36.length - k ∧ AllE [(0, pt b_p b_o), (2, sv none 0 0), (3, sv a1 4 4), (4, pt b_p b_o), (9, sv x33 x36.length x35), (13, sv a1 4 4), (14, pt b_p b_o), (15, pt b_p b_o), (16, pt b_p b_o), (17, pt b_p b_o), (18, pt b_p b_o), (19, pt b_p (b_o + 2)), (20, sv b.sa b.sn b.sc), (21, iv ((b.sn : Nat) : Int)), (22, iv ((i : Nat) : Int)), (23, no), (66, pt b_p b_o), (67, pt b_p b_o), (68, pt b_p (b_o + 1)), (69, sv b.m.ta b.m.tn b.m.tc), (70, iv ((b.m.tn : Nat) : Int)), (71, iv ((j : Nat) : Int)), (72, no), (96, pt b_p b_o), (97, sv x33 x36.length x35), (98, sv x33 x36.length x35), (99, iv ((x36.length : Nat) : Int)), (100, iv ((k : Nat) : Int))] e_ ∧ SepL H0 [sl encF 27 1 a1 4 o, sl encR 53 1 x33 x35 x36, rowsE 2 x36] Hl ∧ o.length = 4 ∧ (k ≤ x36.length) ∧ (o = [iter (part0 b.d) 0 b.ss.length, iter (part1 b.d) 0 (rxs b.m.ts).length, iter (part2 b.d) 0 k, 0])) := ⟨_, fun _ _ _ => rfl⟩
     refine AWp_loop I39 (x36.length - (0)) ?_ ?_
     ·
      rw [hI39]
      refine ⟨0, o, rfl, (all_c rfl (all_c rfl (all_c rfl (all_c rfl (all_c rfl (all_c rfl (all_c rfl (all_c rfl (all_c rfl (all_c rfl (all_c rfl (all_c rfl (all_c rfl (all_c rfl (all_c rfl (all_c rfl (all_c rfl (all_c rfl (all_c rfl (all_c rfl (all_c rfl (all_c rfl (all_c rfl (all_c rfl (all_c rfl (all_c rfl (all_c rfl (all_c rfl all_n)))))))))))))))))))))))))))), hS, ho_n, ?_, ?_⟩
      · omega
      · have hii : j = (rxs b.m.ts).length := by rw [rxs, List.length_map]; omega
        rw [ho, hii]; rfl
     ·
      intro m40 _ H hl41
      rw [hI39] at hl41
      obtain ⟨k, o, hm42, he43, hS, ho_n, hi, ho⟩ := hl41
      obtain ⟨e44, rfl⟩ := he43.ex
      refine AWp_seq ?_
      refine AWp_E rfl ?_
      rcases Decidable.em (((k : Nat) : Int) < ((x36.length : Nat) : Int)) with hc45 | hc45
      ·
       refine ed yes rfl rfl (dv_bin rfl rfl (bi_lss_t hc45)) ?_
       refine E_nil ?_
       refine th_norm ?_
       refine AWp_seq ?_
       refine AWp_cond (t := true) rfl (fun _ => ?_) nofun
       refine AWp_skip ?_
       refine th_norm ?_
       refine AWp_seq ?_
       refine AWp_block ?_
       refine AWp_seq ?_
       refine AWp_E rfl ?_
       refine ed (iv ((k : Nat) : Int)) rfl rfl (dv_move rfl) ?_
       refine ed (iv ((k : Nat) : Int)) rfl rfl (dv_assign rfl) ?_
       refine E_nil ?_
       refine th_norm ?_
       refine AWp_seq ?_
       refine AWp_E rfl ?_
       refine ed (pt b_p b_o) rfl rfl (dv_move rfl) ?_
       refine ed (sv x33 x36.length x35) rfl rfl (dv_move rfl) ?_
       refine ed (iv ((k : Nat) : Int)) rfl rfl (dv_move rfl) ?_
       obtain ⟨x46, hx46⟩ := get_el (xs := x36) (i := k) (by omega)
       have hhk := hinges_ok hbm (rows_get h37 hx46)
       have hhk4 := hhk.1
       refine ed (sp x33 (k * 1)) rfl rfl (dv_indexAddr (a := sv x33 x36.length x35) (b := iv ((k : Nat) : Int)) rfl rfl (ix_sls (n := x36.length) (i := k) (hS.sls 1 rfl) hx46 rfl rfl rfl (get_lt hx46))) ?_
       refine ed (sv x46.a x46.xs.length x46.c) rfl rfl (dv_load rfl (ld_sls (sz := 1) (off := 0) (hS.sls 1 rfl) hx46 (fun _ => rfl) rfl rfl rfl)) ?_
       refine E_call (vs := [pt b_p b_o, sv x46.a x46.xs.length x46.c]) rfl rfl rfl rfl rfl rfl rfl (l03Bent_ok b_p b_o b.m x46.a x46.xs.length x46.c x46.xs _ (PV.sub (j := 0) (n := 2) (hbpv.keep hS.keep) rfl rfl) (hb.1.keep hS.keep) ⟨(rowsE_sls (hS.at (i := 2) rfl) hx46), rfl, h38 _ (List.mem_of_getElem? hx46)⟩ (by first | assumption | omega | (simp only [*]; assumption) | (simp_all; done))) ?_
       rintro _ H ⟨v47, rfl, rfl, hQ⟩
       have hS := hS.up hQ.keep
       refine S_box (l := [fl 0, fl 0, fl 0]) hS rfl rfl rfl rfl rfl fun b48 H hS => ?_
       refine S_store (i := 3) (yv := .agg #[fl ((bentD b.m.ps x46.xs).x), fl ((bentD b.m.ps x46.xs).y), fl ((bentD b.m.ps x46.xs).z)]) (l' := [fl ((bentD b.m.ps x46.xs).x), fl ((bentD b.m.ps x46.xs).y), fl ((bentD b.m.ps x46.xs).z)]) hS rfl rfl rfl rfl rfl rfl rfl rfl rfl rfl rfl rfl fun H hS => ?_
       refine E_nil ?_
       refine th_norm ?_
       have hR := hS.pushes
       have hKb := hS.keep
       have hB := fun Hc (hc : Keep _ Hc) => hR [] Hc (.base hc)
       refine AWp_D0 rfl (by decide +kernel) fun hM => ?_
       refine wd (sv a1 4 4) rfl rfl (fun _ hc => dv_move rfl) ?_
       obtain ⟨x49, hx49⟩ := get_el (xs := o) (i := 2) (by omega)
       refine wd (sp a1 (2 * 1)) rfl rfl (fun _ hc => dv_indexAddr (a := sv a1 4 4) (b := iv 2) rfl rfl (ix_sls (n := 4) (i := 2) ((hB _ hc).sls 0 rfl) hx49 rfl rfl rfl (by omega))) ?_
       refine wd (fl x49) rfl rfl (fun _ hc => dv_load rfl (ld_sls (sz := 1) (off := 0) ((hB _ hc).sls 0 rfl) hx49 (fun _ => rfl) rfl rfl rfl)) ?_
       refine wd (pt b_p b_o) rfl rfl (fun _ hc => dv_move rfl) ?_
       refine wd (pt b_p b_o) rfl rfl (fun _ hc => dv_nilCheck rfl) ?_
       refine wd (pt b_p (b_o + 4)) rfl rfl (fun _ hc => dv_fieldAddr rfl rfl) ?_
       refine wd (fl b.bend) rfl rfl (fun _ hc => dv_load rfl (ld_pv (off := 4) (hbpv.keep (hKb.trans hc)) rfl rfl rfl)) ?_
       refine wd (fl (fop .mul .f32 1056964608 b.bend)) rfl rfl (fun _ hc => dv_bin rfl rfl rfl) ?_
       refine wd (.agg #[fl ((bentD b.m.ps x46.xs).x), fl ((bentD b.m.ps x46.xs).y), fl ((bentD b.m.ps x46.xs).z)]) rfl rfl (fun _ hc => dv_load rfl (ld_boxA (n := 3) ((hB _ hc).box 3 rfl) rfl rfl (Nat.le_of_ble_eq_true rfl) rfl)) ?_
       refine wd (.agg #[fl ((bentD b.m.ps x46.xs).x), fl ((bentD b.m.ps x46.xs).y), fl ((bentD b.m.ps x46.xs).z)]) rfl rfl (fun _ hc => dv_load rfl (ld_boxA (n := 3) ((hB _ hc).box 3 rfl) rfl rfl (Nat.le_of_ble_eq_true rfl) rfl)) ?_
       refine W_call (vs := [.agg #[fl ((bentD b.m.ps x46.xs).x), fl ((bentD b.m.ps x46.xs).y), fl ((bentD b.m.ps x46.xs).z)], .agg #[fl ((bentD b.m.ps x46.xs).x), fl ((bentD b.m.ps x46.xs).y), fl ((bentD b.m.ps x46.xs).z)]]) rfl rfl rfl rfl rfl rfl rfl (l01Inner_ok (bentD b.m.ps x46.xs) (bentD b.m.ps x46.xs) _) ?_
       rintro _ H ⟨v50, rfl, rfl, hQ⟩
       have hM := hM.up hQ.keep
       refine ⟨hM.keep, ?_⟩
       refine wd (fl (fop .mul .f32 (fop .mul .f32 1056964608 b.bend) (vinner (bentD b.m.ps x46.xs) (bentD b.m.ps x46.xs)))) rfl rfl (fun _ hc => dv_bin rfl rfl rfl) ?_
       refine wd (fl (fop .add .f32 x49 (fop .mul .f32 (fop .mul .f32 1056964608 b.bend) (vinner (bentD b.m.ps x46.xs) (bentD b.m.ps x46.xs))))) rfl rfl (fun _ hc => dv_bin rfl rfl rfl) ?_
       refine wd (sp a1 (2 * 1)) rfl rfl (fun _ hc => dv_indexAddr (a := sv a1 4 4) (b := iv 2) rfl rfl (ix_sls (n := 4) (i := 2) ((hB _ hc).sls 0 rfl) hx49 rfl rfl rfl (by omega))) ?_
       have hS := hR _ _ hM
       refine D_storeS (k := 0) (i := 2) (z' := fop .add .f32 x49 (fop .mul .f32 (fop .mul .f32 1056964608 b.bend) (vinner (bentD b.m.ps x46.xs) (bentD b.m.ps x46.xs)))) (off := 0) (yv := fl (fop .add .f32 x49 (fop .mul .f32 (fop .mul .f32 1056964608 b.bend) (vinner (bentD b.m.ps x46.xs) (bentD b.m.ps x46.xs))))) hS rfl rfl rfl rfl rfl (fun _ => rfl) rfl rfl rfl hx49 rfl rfl rfl rfl fun H hS => ?_
       have hx51 := set_get (z := fop .add .f32 x49 (fop .mul .f32 (fop .mul .f32 1056964608 b.bend) (vinner (bentD b.m.ps x46.xs) (bentD b.m.ps x46.xs)))) hx49
       refine bl_norm ?_
       refine th_norm ?_
       refine AWp_E rfl ?_
       refine ed (iv ((k + 1 : Nat) : Int)) rfl rfl (dv_bin rfl rfl (bi_add (by omega))) ?_
       refine ed (iv ((k + 1 : Nat) : Int)) rfl rfl (dv_move rfl) ?_
       refine E_nil ?_
       refine loop_next (I := I39) (x36.length - (k + 1)) (by rw [hm42]; omega) ?_
       rw [hI39]
       refine ⟨k + 1, o.set 2 (fop .add .f32 x49 (fop .mul .f32 (fop .mul .f32 1056964608 b.bend) (vinner (bentD b.m.ps x46.xs) (bentD b.m.ps x46.xs)))), rfl, (all_c rfl (all_c rfl (all_c rfl (all_c rfl (all_c rfl (all_c rfl (all_c rfl (all_c rfl (all_c rfl (all_c rfl (all_c rfl (all_c rfl (all_c rfl (all_c rfl (all_c rfl (all_c rfl (all_c rfl (all_c rfl (all_c rfl (all_c rfl (all_c rfl (all_c rfl (all_c rfl (all_c rfl (all_c rfl (all_c rfl (all_c rfl (all_c rfl all_n)))))))))))))))))))))))))))), (hS.pick [0, 1, 2] rfl), (by rw [List.length_set]; exact ho_n), ?_, ?_⟩
       · omega
       · rw [ho] at hx49
         simp only [List.getElem?_cons_zero, List.getElem?_cons_succ, Option.some.injEq] at hx49
         subst hx49
         rw [ho]
         simp only [List.set_cons_zero, List.set_cons_succ, iter, part2, alongD, LB.d, LM.d, rxs, Msh.hinges, gD 0 hx51, gD [] (rows_get h37 hx46)] <;> first | rfl | (simp only [*]; done)
      ·
       refine ed no rfl rfl (dv_bin rfl rfl (bi_lss_f hc45)) ?_
       refine E_nil ?_
       refine th_norm ?_
       refine AWp_seq ?_
       refine AWp_cond (t := false) rfl nofun (fun _ => ?_)
       refine AWp_exit (th_exit (th_exit (bl_exit (?_))))
       refine th_norm ?_
       refine AWp_seq ?_
       refine AWp_seq ?_
       refine AWp_E rfl ?_
       refine ed (pt b_p b_o) rfl rfl (dv_move rfl) ?_
       refine ed (pt b_p b_o) rfl rfl (dv_nilCheck rfl) ?_
       refine ed (pt b_p b_o) rfl rfl (dv_fieldAddr rfl rfl) ?_
       refine ed (sv b.m.pa b.m.pn b.m.pc) rfl rfl (dv_load rfl (ld_pv (off := 0) (hbpv.keep hS.keep) rfl rfl rfl)) ?_
       refine ed (iv ((b.m.pn : Nat) : Int)) rfl rfl (dv_len rfl rfl rfl rfl rfl) ?_
       refine ed (iv 0) rfl rfl (dv_move rfl) ?_
       refine E_nil ?_
       refine th_norm ?_
       refine AWp_block ?_
       obtain ⟨I52, hI52⟩ : ∃ I : Nat → Env → AH → Prop, ∀ m_ e_ Hl, I m_ e_ Hl = (∃ (l : Nat) (o : List (Nat)), m_ = b.m.pn - l ∧ AllE [(0, pt b_p b_o), (2, sv none 0 0), (3, sv a1 4 4), (4, pt b_p b_o), (9, sv x33 x36.length x35), (13, sv a1 4 4), (14, pt b_p b_o), (15, pt b_p b_o), (16, pt b_p b_o), (17, pt b_p b_o), (18, pt b_p b_o), (19, pt b_p (b_o + 2)), (20, sv b.sa b.sn b.sc), (21, iv ((b.sn : Nat) : Int)), (22, iv ((i : Nat) : Int)), (23, no), (66, pt b_p b_o), (67, pt b_p b_o), (68, pt b_p (b_o + 1)), (69, sv b.m.ta b.m.tn b.m.tc), (70, iv ((b.m.tn : Nat) : Int)), (71, iv ((j : Nat) : Int)), (72, no), (96, pt b_p b_o), (97, sv x33 x36.length x35), (98, sv x33 x36.length x35), (99, iv ((x36.length : Nat) : Int)), (100, iv ((k : Nat) : Int)), (101, no), (124, pt b_p b_o), (125, pt b_p b_o), (126, pt b_p b_o), (127, sv b.m.pa b.m.pn b.m.pc), (128, iv ((b.m.pn : Nat) : Int)), (129, iv ((l : Nat) : Int))] e_ ∧ SepL H0 [sl encF 27 1 a1 4 o, sl encR 53 1 x33 x35 x36, rowsE 2 x36] Hl ∧ o.length = 4 ∧ (l ≤ b.m.pn) ∧ (o = [iter (part0 b.d) 0 b.ss.length, iter (part1 b.d) 0 (rxs b.m.ts).length, iter (part2 b.d) 0 (hingesD b.m.ps.length (rxs b.m.ts)).length, iter (part3 b.d) 0 l])) := ⟨_, fun _ _ _ => rfl⟩
       refine AWp_loop I52 (b.m.pn - (0)) ?_ ?_
       ·
        rw [hI52]
        refine ⟨0, o, rfl, (all_c rfl (all_c rfl (all_c rfl (all_c rfl (all_c rfl (all_c rfl (all_c rfl (all_c rfl (all_c rfl (all_c rfl (all_c rfl (all_c rfl (all_c rfl (all_c rfl (all_c rfl (all_c rfl (all_c rfl (all_c rfl (all_c rfl (all_c rfl (all_c rfl (all_c rfl (all_c rfl (all_c rfl (all_c rfl (all_c rfl (all_c rfl (all_c rfl (all_c rfl (all_c rfl (all_c rfl (all_c rfl (all_c rfl (all_c rfl (all_c rfl all_n))))))))))))))))))))))))))))))))))), hS, ho_n, ?_, ?_⟩
        · omega
        · have hii : k = (hingesD b.m.ps.length (rxs b.m.ts)).length := by omega
          rw [ho, hii]; rfl
       ·
        intro m53 _ H hl54
        rw [hI52] at hl54
        obtain ⟨l, o, hm55, he56, hS, ho_n, hi, ho⟩ := hl54
        obtain ⟨e57, rfl⟩ := he56.ex
        refine AWp_seq ?_
        refine AWp_E rfl ?_
        rcases Decidable.em (((l : Nat) : Int) < ((b.m.pn : Nat) : Int)) with hc58 | hc58
        ·
         refine ed yes rfl rfl (dv_bin rfl rfl (bi_lss_t hc58)) ?_
         refine E_nil ?_
         refine th_norm ?_
         refine AWp_seq ?_
         refine AWp_cond (t := true) rfl (fun _ => ?_) nofun
         refine AWp_skip ?_
         refine th_norm ?_
         refine AWp_seq ?_
         refine AWp_block ?_
         refine AWp_seq ?_
         refine AWp_E rfl ?_
         refine ed (iv ((l : Nat) : Int)) rfl rfl (dv_move rfl) ?_
         refine ed (iv ((l : Nat) : Int)) rfl rfl (dv_assign rfl) ?_
         refine E_nil ?_
         refine th_norm ?_
         have hR := hS.pushes
         have hKb := hS.keep
         have hB := fun Hc (hc : Keep _ Hc) => hR [] Hc (.base hc)
         refine AWp_D0 rfl (by decide +kernel) fun hM => ?_
         refine wd (sv a1 4 4) rfl rfl (fun _ hc => dv_move rfl) ?_
         obtain ⟨x59, hx59⟩ := get_el (xs := o) (i := 3) (by omega)
         refine wd (sp a1 (3 * 1)) rfl rfl (fun _ hc => dv_indexAddr (a := sv a1 4 4) (b := iv 3) rfl rfl (ix_sls (n := 4) (i := 3) ((hB _ hc).sls 0 rfl) hx59 rfl rfl rfl (by omega))) ?_
         refine wd (fl x59) rfl rfl (fun _ hc => dv_load rfl (ld_sls (sz := 1) (off := 0) ((hB _ hc).sls 0 rfl) hx59 (fun _ => rfl) rfl rfl rfl)) ?_
         refine wd (pt b_p b_o) rfl rfl (fun _ hc => dv_move rfl) ?_
         refine wd (pt b_p b_o) rfl rfl (fun _ hc => dv_nilCheck rfl) ?_
         refine wd (pt b_p (b_o + 5)) rfl rfl (fun _ hc => dv_fieldAddr rfl rfl) ?_
         refine wd (sv b.wa b.wn b.wc) rfl rfl (fun _ hc => dv_load rfl (ld_pv (off := 5) (hbpv.keep (hKb.trans hc)) rfl rfl rfl)) ?_
         refine wd (iv ((l : Nat) : Int)) rfl rfl (fun _ hc => dv_move rfl) ?_
         obtain ⟨x60, hx60⟩ := get_el (xs := b.ws) (i := l) (by omega)
         refine wd (sp b.wa (l * 1)) rfl rfl (fun _ hc => dv_indexAddr (a := sv b.wa b.wn b.wc) (b := iv ((l : Nat) : Int)) rfl rfl (ix_sls (n := b.wn) (i := l) (hb_ws.keep (hKb.trans hc)) hx60 rfl rfl rfl (by omega))) ?_
         refine wd (fl x60) rfl rfl (fun _ hc => dv_load rfl (ld_sls (sz := 1) (off := 0) (hb_ws.keep (hKb.trans hc)) hx60 (fun _ => rfl) rfl rfl rfl)) ?_
         refine wd (pt b_p b_o) rfl rfl (fun _ hc => dv_move rfl) ?_
         refine wd (pt b_p b_o) rfl rfl (fun _ hc => dv_nilCheck rfl) ?_
         refine wd (pt b_p (b_o + 6)) rfl rfl (fun _ hc => dv_fieldAddr rfl rfl) ?_
         refine wd (va b.fall) rfl rfl (fun _ hc => dv_load rfl (ld_pvA (off := 6) (n := 3) (hbpv.keep (hKb.trans hc)) rfl rfl rfl rfl)) ?_
         refine wd (pt b_p b_o) rfl rfl (fun _ hc => dv_move rfl) ?_
         refine wd (pt b_p b_o) rfl rfl (fun _ hc => dv_nilCheck rfl) ?_
         refine wd (pt b_p b_o) rfl rfl (fun _ hc => dv_fieldAddr rfl rfl) ?_
         refine wd (sv b.m.pa b.m.pn b.m.pc) rfl rfl (fun _ hc => dv_load rfl (ld_pv (off := 0) (hbpv.keep (hKb.trans hc)) rfl rfl rfl)) ?_
         refine wd (iv ((l : Nat) : Int)) rfl rfl (fun _ hc => dv_move rfl) ?_
         obtain ⟨x61, hx61⟩ := get_el (xs := b.m.ps) (i := l) (by omega)
         refine wd (sp b.m.pa (l * 3)) rfl rfl (fun _ hc => dv_indexAddr (a := sv b.m.pa b.m.pn b.m.pc) (b := iv ((l : Nat) : Int)) rfl rfl (ix_sls (n := b.m.pn) (i := l) (hb_1_ps.keep (hKb.trans hc)) hx61 rfl rfl rfl (by omega))) ?_
         refine wd (va x61) rfl rfl (fun _ hc => dv_load rfl (ld_slsA (sz := 3) (m := 3) (ys := [fl x61.x, fl x61.y, fl x61.z]) (off := 0) (hb_1_ps.keep (hKb.trans hc)) hx61 (fun _ => rfl) rfl rfl (Nat.le_of_ble_eq_true rfl) rfl)) ?_
         refine W_call (vs := [va b.fall, va x61]) rfl rfl rfl rfl rfl rfl rfl (l01Inner_ok b.fall x61 _) ?_
         rintro _ H ⟨v62, rfl, rfl, hQ⟩
         have hM := hM.up hQ.keep
         refine ⟨hM.keep, ?_⟩
         refine wd (fl (fop .mul .f32 x60 (vinner b.fall x61))) rfl rfl (fun _ hc => dv_bin rfl rfl rfl) ?_
         refine wd (fl (fneg .f32 (fop .mul .f32 x60 (vinner b.fall x61)))) rfl rfl (fun _ hc => dv_un rfl rfl) ?_
         refine wd (fl (fop .add .f32 x59 (fneg .f32 (fop .mul .f32 x60 (vinner b.fall x61))))) rfl rfl (fun _ hc => dv_bin rfl rfl rfl) ?_
         refine wd (sp a1 (3 * 1)) rfl rfl (fun _ hc => dv_indexAddr (a := sv a1 4 4) (b := iv 3) rfl rfl (ix_sls (n := 4) (i := 3) ((hB _ hc).sls 0 rfl) hx59 rfl rfl rfl (by omega))) ?_
         have hS := hR _ _ hM
         refine D_storeS (k := 0) (i := 3) (z' := fop .add .f32 x59 (fneg .f32 (fop .mul .f32 x60 (vinner b.fall x61)))) (off := 0) (yv := fl (fop .add .f32 x59 (fneg .f32 (fop .mul .f32 x60 (vinner b.fall x61))))) hS rfl rfl rfl rfl rfl (fun _ => rfl) rfl rfl rfl hx59 rfl rfl rfl rfl fun H hS => ?_
         have hx63 := set_get (z := fop .add .f32 x59 (fneg .f32 (fop .mul .f32 x60 (vinner b.fall x61)))) hx59
         refine bl_norm ?_
         refine th_norm ?_
         refine AWp_E rfl ?_
         refine ed (iv ((l + 1 : Nat) : Int)) rfl rfl (dv_bin rfl rfl (bi_add (by omega))) ?_
         refine ed (iv ((l + 1 : Nat) : Int)) rfl rfl (dv_move rfl) ?_
         refine E_nil ?_
         refine loop_next (I := I52) (b.m.pn - (l + 1)) (by rw [hm55]; omega) ?_
         rw [hI52]
         refine ⟨l + 1, o.set 3 (fop .add .f32 x59 (fneg .f32 (fop .mul .f32 x60 (vinner b.fall x61)))), rfl, (all_c rfl (all_c rfl (all_c rfl (all_c rfl (all_c rfl (all_c rfl (all_c rfl (all_c rfl (all_c rfl (all_c rfl (all_c rfl (all_c rfl (all_c rfl (all_c rfl (all_c rfl (all_c rfl (all_c rfl (all_c rfl (all_c rfl (all_c rfl (all_c rfl (all_c rfl (all_c rfl (all_c rfl (all_c rfl (all_c rfl (all_c rfl (all_c rfl (all_c rfl (all_c rfl (all_c rfl (all_c rfl (all_c rfl (all_c rfl (all_c rfl all_n))))))))))))))))))))))))))))))))))), hS, (by rw [List.length_set]; exact ho_n), ?_, ?_⟩
         · omega
         · rw [ho] at hx59
           simp only [List.getElem?_cons_zero, List.getElem?_cons_succ, Option.some.injEq] at hx59
           subst hx59
           rw [ho]
           simp only [List.set_cons_zero, List.set_cons_succ, iter, part3, alongD, LB.d, LM.d, rxs, Msh.hinges, gD 0 hx60, gD v0 hx61, gD 0 hx63, at3_nat hx61] <;> first | rfl | (simp only [*]; done)
        ·
         refine ed no rfl rfl (dv_bin rfl rfl (bi_lss_f hc58)) ?_
         refine E_nil ?_
         refine th_norm ?_
         refine AWp_seq ?_
         refine AWp_cond (t := false) rfl nofun (fun _ => ?_)
         refine AWp_exit (th_exit (th_exit (bl_exit (?_))))
         refine th_norm ?_
         refine AWp_seq ?_
         refine AWp_E rfl ?_
         refine ed (sv a1 4 4) rfl rfl (dv_move rfl) ?_
         refine ed (sv a1 4 4) rfl rfl (dv_assign rfl) ?_
         refine E_nil ?_
         refine th_norm ?_
         refine AWp_ret (?_)
         refine ret_of ?_
         refine readsRes_of (rs := [.tmp 2]) (vs := [sv a1 4 4]) rfl (re_cons (re_tmp rfl) (re_nil)) rfl ?_
         refine ⟨a1, 4, 4, o, ?_, ?_, ho_n, rfl, hS.pick [0] rfl⟩
         · rw [ho]; rfl
         · have hii : l = b.m.ps.length := by omega
           rw [ho, hii]; rfl
theorem l03Energy_ok (b_p b_o : Nat) (b : LB) (H : AH) (hbpv : PV H b_p b_o b.v) (hb : b.ok H) (hb0 : Bod.ok b.d) : ACalls Tryz.prog 50 [pt b_p b_o] H
  (fun r H' => ∃ (v_ : Nat), energyD b.d = v_ ∧ r = fl v_ ∧ SepL H [] H') := by
 refine ACalls_of Tryz.func50 rfl (Nat.le_of_ble_eq_true rfl) ?_
 obtain ⟨H0, hH0⟩ : ∃ H0, H0 = H := ⟨_, rfl⟩
 have hS : SepL H0 [] H := hH0 ▸ SepL.refl H
 subst hH0
 obtain ⟨⟨hb_1_ps, hb_1_pn, hb_1_pb⟩, hb_1_ts, hb_1_tn, hb_1_tb⟩ := id hb.1
 obtain ⟨⟨hb_ss, hb_sn, hb_sb⟩, hb_ws, hb_wn, hb_wb⟩ := hb.2
 refine AWp_seq ?_
 refine AWp_E rfl ?_
 refine ed (fl 0) rfl rfl (dv_assign rfl) ?_
 refine E_nil ?_
 refine th_norm ?_
 refine AWp_seq ?_
 refine AWp_E rfl ?_
 refine ed (pt b_p b_o) rfl rfl (dv_move rfl) ?_
 refine E_call (vs := [pt b_p b_o]) rfl rfl rfl rfl rfl rfl rfl (l03Parts_ok b_p b_o b _ (hbpv.keep hS.keep) (hb.keep hS.keep) hb0) ?_
 rintro _ H ⟨x1, x2, x3, x4, h5, h6, rfl, rfl, hQ⟩
 have hlh6 := congrArg List.length h6
 have hS := hS.push hQ
 refine ed (sv x1 x4.length x3) rfl rfl (dv_assign rfl) ?_
 refine E_nil ?_
 refine th_norm ?_
 refine AWp_seq ?_
 have hR := hS.pushes
 have hKb := hS.keep
 have hB := fun Hc (hc : Keep _ Hc) => hR [] Hc (.base hc)
 refine AWp_D0 rfl (by decide +kernel) fun hM => ?_
 refine wd (sv x1 x4.length x3) rfl rfl (fun _ hc => dv_move rfl) ?_
 obtain ⟨x7, hx7⟩ := get_el (xs := x4) (i := 0) (by omega)
 refine wd (sp x1 (0 * 1)) rfl rfl (fun _ hc => dv_indexAddr (a := sv x1 x4.length x3) (b := iv 0) rfl rfl (ix_sls (n := x4.length) (i := 0) ((hB _ hc).sls 0 rfl) hx7 rfl rfl rfl (get_lt hx7))) ?_
 refine wd (fl x7) rfl rfl (fun _ hc => dv_load rfl (ld_sls (sz := 1) (off := 0) ((hB _ hc).sls 0 rfl) hx7 (fun _ => rfl) rfl rfl rfl)) ?_
 refine wd (sv x1 x4.length x3) rfl rfl (fun _ hc => dv_move rfl) ?_
 obtain ⟨x8, hx8⟩ := get_el (xs := x4) (i := 1) (by omega)
 refine wd (sp x1 (1 * 1)) rfl rfl (fun _ hc => dv_indexAddr (a := sv x1 x4.length x3) (b := iv 1) rfl rfl (ix_sls (n := x4.length) (i := 1) ((hB _ hc).sls 0 rfl) hx8 rfl rfl rfl (get_lt hx8))) ?_
 refine wd (fl x8) rfl rfl (fun _ hc => dv_load rfl (ld_sls (sz := 1) (off := 0) ((hB _ hc).sls 0 rfl) hx8 (fun _ => rfl) rfl rfl rfl)) ?_
 refine wd (fl (fop .add .f32 x7 x8)) rfl rfl (fun _ hc => dv_bin rfl rfl rfl) ?_
 refine wd (sv x1 x4.length x3) rfl rfl (fun _ hc => dv_move rfl) ?_
 obtain ⟨x9, hx9⟩ := get_el (xs := x4) (i := 2) (by omega)
 refine wd (sp x1 (2 * 1)) rfl rfl (fun _ hc => dv_indexAddr (a := sv x1 x4.length x3) (b := iv 2) rfl rfl (ix_sls (n := x4.length) (i := 2) ((hB _ hc).sls 0 rfl) hx9 rfl rfl rfl (get_lt hx9))) ?_
 refine wd (fl x9) rfl rfl (fun _ hc => dv_load rfl (ld_sls (sz := 1) (off := 0) ((hB _ hc).sls 0 rfl) hx9 (fun _ => rfl) rfl rfl rfl)) ?_
 refine wd (fl (fop .add .f32 (fop .add .f32 x7 x8) x9)) rfl rfl (fun _ hc => dv_bin rfl rfl rfl) ?_
 refine wd (sv x1 x4.length x3) rfl rfl (fun _ hc => dv_move rfl) ?_
 obtain ⟨x10, hx10⟩ := get_el (xs := x4) (i := 3) (by omega)
 refine wd (sp x1 (3 * 1)) rfl rfl (fun _ hc => dv_indexAddr (a := sv x1 x4.length x3) (b := iv 3) rfl rfl (ix_sls (n := x4.length) (i := 3) ((hB _ hc).sls 0 rfl) hx10 rfl rfl rfl (get_lt hx10))) ?_
 refine wd (fl x10) rfl rfl (fun _ hc => dv_load rfl (ld_sls (sz := 1) (off := 0) ((hB _ hc).sls 0 rfl) hx10 (fun _ => rfl) rfl rfl rfl)) ?_
 refine wd (fl (fop .add .f32 (fop .add .f32 (fop .add .f32 x7 x8) x9) x10)) rfl rfl (fun _ hc => dv_bin rfl rfl rfl) ?_
 refine wd (fl (fop .add .f32 (fop .add .f32 (fop .add .f32 x7 x8) x9) x10)) rfl rfl (fun _ hc => dv_assign rfl) ?_
 have hS := hR _ _ hM
 refine W_nil ?_
 refine th_norm ?_
 refine AWp_ret (?_)
 refine ret_of ?_
 refine readsRes_of (rs := [.tmp 2]) (vs := [fl (fop .add .f32 (fop .add .f32 (fop .add .f32 x7 x8) x9) x10)]) rfl (re_cons (re_tmp rfl) (re_nil)) rfl ?_
 refine ⟨(fop .add .f32 (fop .add .f32 (fop .add .f32 x7 x8) x9) x10), ?_, rfl, .base hS.keep⟩
 · unfold energyD
   rw [← h6]
   simp only [gD 0 hx7, gD 0 hx8, gD 0 hx9, gD 0 hx10]
end Go.Ab

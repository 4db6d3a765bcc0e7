/- Walks through functions of the program: what each computes, told over that view of memory; each with the conditions that it tells. -/
import Derived.Test.YtpiidmgenkjiiaaGreatProg
import Derived.Test.YtpiidmgenkjiiaaGreatWa
import Derived.Test.YtpiidmgenkjiiaaGreatVb
set_option maxRecDepth 100000
set_option maxHeartbeats 4000000
namespace Go.Ab
open Go.Proofs
theorem l02Triangle_ok (t_a : Option Addr) (t_n t_c : Nat) (t : List (Int)) (n : Int) (H : AH) (ht : VS H encI t_a t_n t) (hn : 0 ≤ n ∧ n ≤ 1048576) : ACalls Tryz.prog 140 [sv t_a t_n t_c, iv n] H
  (fun r H' => (triP t n ∧ r = yes ∧ SepL H [] H') ∨ (¬(triP t n) ∧ r = no ∧ SepL H [] H')) := by
 refine ACalls_of Tryz.func140 rfl (Nat.le_of_ble_eq_true rfl) ?_
 obtain ⟨H0, hH0⟩ : ∃ H0, H0 = H := ⟨_, rfl⟩
 have hS : SepL H0 [] H := hH0 ▸ SepL.refl H
 subst hH0
 obtain ⟨ht_s, ht_n, ht_b⟩ := id ht
 refine AWp_seq ?_
 refine AWp_E rfl ?_
 refine ed no rfl rfl (dv_assign rfl) ?_
 refine E_nil ?_
 refine th_norm ?_
 refine AWp_seq ?_
 refine AWp_seq ?_
 have hR := hS.pushes
 have hKb := hS.keep
 have hB := fun Hc (hc : Keep _ Hc) => hR [] Hc (.base hc)
 refine AWp_D0 rfl (by decide +kernel) fun hM => ?_
 refine wd (sv t_a t_n t_c) rfl rfl (fun _ hc => dv_move rfl) ?_
 refine wd (iv ((t_n : Nat) : Int)) rfl rfl (fun _ hc => dv_len rfl rfl rfl rfl rfl) ?_
 rcases Decidable.em (((t_n : Nat) : Int) ≠ 3) with hc1 | hc1
 ·
  refine wd yes rfl rfl (fun _ hc => dv_bin rfl rfl (bi_neq_t hc1)) ?_
  refine wd yes rfl rfl (fun _ hc => dv_move rfl) ?_
  refine W_skip rfl rfl ?_
  refine W_skip rfl rfl ?_
  refine W_skip rfl rfl ?_
  refine W_skip rfl rfl ?_
  refine W_skip rfl rfl ?_
  refine W_skip rfl rfl ?_
  refine W_skip rfl rfl ?_
  refine wd yes rfl rfl (fun _ hc => dv_pick (t := true) rfl rfl) ?_
  refine wd yes rfl rfl (fun _ hc => dv_move rfl) ?_
  refine W_skip rfl rfl ?_
  refine W_skip rfl rfl ?_
  refine W_skip rfl rfl ?_
  refine W_skip rfl rfl ?_
  refine W_skip rfl rfl ?_
  refine W_skip rfl rfl ?_
  refine W_skip rfl rfl ?_
  refine wd yes rfl rfl (fun _ hc => dv_pick (t := true) rfl rfl) ?_
  refine wd yes rfl rfl (fun _ hc => dv_move rfl) ?_
  refine W_skip rfl rfl ?_
  refine W_skip rfl rfl ?_
  refine W_skip rfl rfl ?_
  refine W_skip rfl rfl ?_
  refine W_skip rfl rfl ?_
  refine W_skip rfl rfl ?_
  refine W_skip rfl rfl ?_
  refine wd yes rfl rfl (fun _ hc => dv_pick (t := true) rfl rfl) ?_
  have hS := hR _ _ hM
  refine W_nil ?_
  refine th_norm ?_
  refine AWp_cond (t := true) rfl (fun _ => ?_) nofun
  refine AWp_seq ?_
  refine AWp_E rfl ?_
  refine ed no rfl rfl (dv_assign rfl) ?_
  refine E_nil ?_
  refine th_norm ?_
  refine AWp_ret (th_ret (?_))
  refine ret_of ?_
  refine readsRes_of (rs := [.tmp 4]) (vs := [no]) rfl (re_cons (re_tmp rfl) (re_nil)) rfl ?_
  refine .inr (?_)
  refine ⟨?_, rfl, .base hS.keep⟩
  · unfold triP inP
    intro hh
    omega
 ·
  refine wd no rfl rfl (fun _ hc => dv_bin rfl rfl (bi_neq_f hc1)) ?_
  refine wd no rfl rfl (fun _ hc => dv_move rfl) ?_
  refine wd (sv t_a t_n t_c) rfl rfl (fun _ hc => dv_move rfl) ?_
  obtain ⟨x2, hx2⟩ := get_el (xs := t) (i := 0) (by omega)
  refine wd (sp t_a (0 * 1)) rfl rfl (fun _ hc => dv_indexAddr (a := sv t_a t_n t_c) (b := iv 0) rfl rfl (ix_sls (n := t_n) (i := 0) (ht_s.keep (hKb.trans hc)) hx2 rfl rfl rfl (by omega))) ?_
  refine wd (iv x2) rfl rfl (fun _ hc => dv_load rfl (ld_sls (sz := 1) (off := 0) (ht_s.keep (hKb.trans hc)) hx2 (fun _ => rfl) rfl rfl rfl)) ?_
  refine wd (sv t_a t_n t_c) rfl rfl (fun _ hc => dv_move rfl) ?_
  obtain ⟨x3, hx3⟩ := get_el (xs := t) (i := 1) (by omega)
  refine wd (sp t_a (1 * 1)) rfl rfl (fun _ hc => dv_indexAddr (a := sv t_a t_n t_c) (b := iv 1) rfl rfl (ix_sls (n := t_n) (i := 1) (ht_s.keep (hKb.trans hc)) hx3 rfl rfl rfl (by omega))) ?_
  refine wd (iv x3) rfl rfl (fun _ hc => dv_load rfl (ld_sls (sz := 1) (off := 0) (ht_s.keep (hKb.trans hc)) hx3 (fun _ => rfl) rfl rfl rfl)) ?_
  rcases Decidable.em ((x2 : Int) = x3) with hc4 | hc4
  ·
   refine wd yes rfl rfl (fun _ hc => dv_bin rfl rfl (bi_eql_t hc4)) ?_
   refine wd yes rfl rfl (fun _ hc => dv_pick (t := false) rfl rfl) ?_
   refine wd yes rfl rfl (fun _ hc => dv_move rfl) ?_
   refine W_skip rfl rfl ?_
   refine W_skip rfl rfl ?_
   refine W_skip rfl rfl ?_
   refine W_skip rfl rfl ?_
   refine W_skip rfl rfl ?_
   refine W_skip rfl rfl ?_
   refine W_skip rfl rfl ?_
   refine wd yes rfl rfl (fun _ hc => dv_pick (t := true) rfl rfl) ?_
   refine wd yes rfl rfl (fun _ hc => dv_move rfl) ?_
   refine W_skip rfl rfl ?_
   refine W_skip rfl rfl ?_
   refine W_skip rfl rfl ?_
   refine W_skip rfl rfl ?_
   refine W_skip rfl rfl ?_
   refine W_skip rfl rfl ?_
   refine W_skip rfl rfl ?_
   refine wd yes rfl rfl (fun _ hc => dv_pick (t := true) rfl rfl) ?_
   have hS := hR _ _ hM
   refine W_nil ?_
   refine th_norm ?_
   refine AWp_cond (t := true) rfl (fun _ => ?_) nofun
   refine AWp_seq ?_
   refine AWp_E rfl ?_
   refine ed no rfl rfl (dv_assign rfl) ?_
   refine E_nil ?_
   refine th_norm ?_
   refine AWp_ret (th_ret (?_))
   refine ret_of ?_
   refine readsRes_of (rs := [.tmp 4]) (vs := [no]) rfl (re_cons (re_tmp rfl) (re_nil)) rfl ?_
   refine .inr (?_)
   refine ⟨?_, rfl, .base hS.keep⟩
   · have gg0 := getD_of hx2
     have gg1 := getD_of hx3
     unfold triP inP
     intro hh
     simp only [gg0, gg1] at hh
     omega
  ·
   refine wd no rfl rfl (fun _ hc => dv_bin rfl rfl (bi_eql_f hc4)) ?_
   refine wd no rfl rfl (fun _ hc => dv_pick (t := false) rfl rfl) ?_
   refine wd no rfl rfl (fun _ hc => dv_move rfl) ?_
   refine wd (sv t_a t_n t_c) rfl rfl (fun _ hc => dv_move rfl) ?_
   refine wd (sp t_a (1 * 1)) rfl rfl (fun _ hc => dv_indexAddr (a := sv t_a t_n t_c) (b := iv 1) rfl rfl (ix_sls (n := t_n) (i := 1) (ht_s.keep (hKb.trans hc)) hx3 rfl rfl rfl (by omega))) ?_
   refine wd (iv x3) rfl rfl (fun _ hc => dv_load rfl (ld_sls (sz := 1) (off := 0) (ht_s.keep (hKb.trans hc)) hx3 (fun _ => rfl) rfl rfl rfl)) ?_
   refine wd (sv t_a t_n t_c) rfl rfl (fun _ hc => dv_move rfl) ?_
   obtain ⟨x5, hx5⟩ := get_el (xs := t) (i := 2) (by omega)
   refine wd (sp t_a (2 * 1)) rfl rfl (fun _ hc => dv_indexAddr (a := sv t_a t_n t_c) (b := iv 2) rfl rfl (ix_sls (n := t_n) (i := 2) (ht_s.keep (hKb.trans hc)) hx5 rfl rfl rfl (by omega))) ?_
   refine wd (iv x5) rfl rfl (fun _ hc => dv_load rfl (ld_sls (sz := 1) (off := 0) (ht_s.keep (hKb.trans hc)) hx5 (fun _ => rfl) rfl rfl rfl)) ?_
   rcases Decidable.em ((x3 : Int) = x5) with hc6 | hc6
   ·
    refine wd yes rfl rfl (fun _ hc => dv_bin rfl rfl (bi_eql_t hc6)) ?_
    refine wd yes rfl rfl (fun _ hc => dv_pick (t := false) rfl rfl) ?_
    refine wd yes rfl rfl (fun _ hc => dv_move rfl) ?_
    refine W_skip rfl rfl ?_
    refine W_skip rfl rfl ?_
    refine W_skip rfl rfl ?_
    refine W_skip rfl rfl ?_
    refine W_skip rfl rfl ?_
    refine W_skip rfl rfl ?_
    refine W_skip rfl rfl ?_
    refine wd yes rfl rfl (fun _ hc => dv_pick (t := true) rfl rfl) ?_
    have hS := hR _ _ hM
    refine W_nil ?_
    refine th_norm ?_
    refine AWp_cond (t := true) rfl (fun _ => ?_) nofun
    refine AWp_seq ?_
    refine AWp_E rfl ?_
    refine ed no rfl rfl (dv_assign rfl) ?_
    refine E_nil ?_
    refine th_norm ?_
    refine AWp_ret (th_ret (?_))
    refine ret_of ?_
    refine readsRes_of (rs := [.tmp 4]) (vs := [no]) rfl (re_cons (re_tmp rfl) (re_nil)) rfl ?_
    refine .inr (?_)
    refine ⟨?_, rfl, .base hS.keep⟩
    · have gg0 := getD_of hx2
      have gg1 := getD_of hx3
      have gg2 := getD_of hx5
      unfold triP inP
      intro hh
      simp only [gg0, gg1, gg2] at hh
      omega
   ·
    refine wd no rfl rfl (fun _ hc => dv_bin rfl rfl (bi_eql_f hc6)) ?_
    refine wd no rfl rfl (fun _ hc => dv_pick (t := false) rfl rfl) ?_
    refine wd no rfl rfl (fun _ hc => dv_move rfl) ?_
    refine wd (sv t_a t_n t_c) rfl rfl (fun _ hc => dv_move rfl) ?_
    refine wd (sp t_a (0 * 1)) rfl rfl (fun _ hc => dv_indexAddr (a := sv t_a t_n t_c) (b := iv 0) rfl rfl (ix_sls (n := t_n) (i := 0) (ht_s.keep (hKb.trans hc)) hx2 rfl rfl rfl (by omega))) ?_
    refine wd (iv x2) rfl rfl (fun _ hc => dv_load rfl (ld_sls (sz := 1) (off := 0) (ht_s.keep (hKb.trans hc)) hx2 (fun _ => rfl) rfl rfl rfl)) ?_
    refine wd (sv t_a t_n t_c) rfl rfl (fun _ hc => dv_move rfl) ?_
    refine wd (sp t_a (2 * 1)) rfl rfl (fun _ hc => dv_indexAddr (a := sv t_a t_n t_c) (b := iv 2) rfl rfl (ix_sls (n := t_n) (i := 2) (ht_s.keep (hKb.trans hc)) hx5 rfl rfl rfl (by omega))) ?_
    refine wd (iv x5) rfl rfl (fun _ hc => dv_load rfl (ld_sls (sz := 1) (off := 0) (ht_s.keep (hKb.trans hc)) hx5 (fun _ => rfl) rfl rfl rfl)) ?_
    rcases Decidable.em ((x2 : Int) = x5) with hc7 | hc7
    ·
     refine wd yes rfl rfl (fun _ hc => dv_bin rfl rfl (bi_eql_t hc7)) ?_
     refine wd yes rfl rfl (fun _ hc => dv_pick (t := false) rfl rfl) ?_
     have hS := hR _ _ hM
     refine W_nil ?_
     refine th_norm ?_
     refine AWp_cond (t := true) rfl (fun _ => ?_) nofun
     refine AWp_seq ?_
     refine AWp_E rfl ?_
     refine ed no rfl rfl (dv_assign rfl) ?_
     refine E_nil ?_
     refine th_norm ?_
     refine AWp_ret (th_ret (?_))
     refine ret_of ?_
     refine readsRes_of (rs := [.tmp 4]) (vs := [no]) rfl (re_cons (re_tmp rfl) (re_nil)) rfl ?_
     refine .inr (?_)
     refine ⟨?_, rfl, .base hS.keep⟩
     · have gg0 := getD_of hx2
       have gg1 := getD_of hx3
       have gg2 := getD_of hx5
       unfold triP inP
       intro hh
       simp only [gg0, gg1, gg2] at hh
       omega
    ·
     refine wd no rfl rfl (fun _ hc => dv_bin rfl rfl (bi_eql_f hc7)) ?_
     refine wd no rfl rfl (fun _ hc => dv_pick (t := false) rfl rfl) ?_
     have hS := hR _ _ hM
     refine W_nil ?_
     refine th_norm ?_
     refine AWp_cond (t := false) rfl nofun (fun _ => ?_)
     refine AWp_skip ?_
     refine th_norm ?_
     refine AWp_seq ?_
     refine AWp_E rfl ?_
     refine ed (sv t_a t_n t_c) rfl rfl (dv_move rfl) ?_
     refine ed (sp t_a (0 * 1)) rfl rfl (dv_indexAddr (a := sv t_a t_n t_c) (b := iv 0) rfl rfl (ix_sls (n := t_n) (i := 0) (ht_s.keep hS.keep) hx2 rfl rfl rfl (by omega))) ?_
     refine ed (iv x2) rfl rfl (dv_load rfl (ld_sls (sz := 1) (off := 0) (ht_s.keep hS.keep) hx2 (fun _ => rfl) rfl rfl rfl)) ?_
     refine ed (iv n) rfl rfl (dv_move rfl) ?_
     refine ed (iv (n - 1)) rfl rfl (dv_bin rfl rfl (bi_sub (by omega))) ?_
     refine E_call (vs := [iv x2, iv 0, iv (n - 1)]) rfl rfl rfl rfl rfl rfl rfl (l00In_ok x2 0 (n - 1) _) ?_
     rintro _ H (⟨h8, rfl, hQ⟩ | ⟨h9, rfl, hQ⟩)
     ·
      have hS := hS.up hQ.keep
      refine ed yes rfl rfl (dv_move rfl) ?_
      refine ed (sv t_a t_n t_c) rfl rfl (dv_move rfl) ?_
      refine ed (sp t_a (1 * 1)) rfl rfl (dv_indexAddr (a := sv t_a t_n t_c) (b := iv 1) rfl rfl (ix_sls (n := t_n) (i := 1) (ht_s.keep hS.keep) hx3 rfl rfl rfl (by omega))) ?_
      refine ed (iv x3) rfl rfl (dv_load rfl (ld_sls (sz := 1) (off := 0) (ht_s.keep hS.keep) hx3 (fun _ => rfl) rfl rfl rfl)) ?_
      refine ed (iv n) rfl rfl (dv_move rfl) ?_
      refine ed (iv (n - 1)) rfl rfl (dv_bin rfl rfl (bi_sub (by omega))) ?_
      refine E_call (vs := [iv x3, iv 0, iv (n - 1)]) rfl rfl rfl rfl rfl rfl rfl (l00In_ok x3 0 (n - 1) _) ?_
      rintro _ H (⟨h10, rfl, hQ⟩ | ⟨h11, rfl, hQ⟩)
      ·
       have hS := hS.up hQ.keep
       refine ed yes rfl rfl (dv_pick (t := true) rfl rfl) ?_
       refine ed yes rfl rfl (dv_move rfl) ?_
       refine ed (sv t_a t_n t_c) rfl rfl (dv_move rfl) ?_
       refine ed (sp t_a (2 * 1)) rfl rfl (dv_indexAddr (a := sv t_a t_n t_c) (b := iv 2) rfl rfl (ix_sls (n := t_n) (i := 2) (ht_s.keep hS.keep) hx5 rfl rfl rfl (by omega))) ?_
       refine ed (iv x5) rfl rfl (dv_load rfl (ld_sls (sz := 1) (off := 0) (ht_s.keep hS.keep) hx5 (fun _ => rfl) rfl rfl rfl)) ?_
       refine ed (iv n) rfl rfl (dv_move rfl) ?_
       refine ed (iv (n - 1)) rfl rfl (dv_bin rfl rfl (bi_sub (by omega))) ?_
       refine E_call (vs := [iv x5, iv 0, iv (n - 1)]) rfl rfl rfl rfl rfl rfl rfl (l00In_ok x5 0 (n - 1) _) ?_
       rintro _ H (⟨h12, rfl, hQ⟩ | ⟨h13, rfl, hQ⟩)
       ·
        have hS := hS.up hQ.keep
        refine ed yes rfl rfl (dv_pick (t := true) rfl rfl) ?_
        refine ed yes rfl rfl (dv_assign rfl) ?_
        refine E_nil ?_
        refine th_norm ?_
        refine AWp_ret (?_)
        refine ret_of ?_
        refine readsRes_of (rs := [.tmp 4]) (vs := [yes]) rfl (re_cons (re_tmp rfl) (re_nil)) rfl ?_
        refine .inl ?_
        refine ⟨?_, rfl, .base hS.keep⟩
        · have gg0 := getD_of hx2
          have gg1 := getD_of hx3
          have gg2 := getD_of hx5
          unfold triP inP
          simp only [gg0, gg1, gg2]
          omega
       ·
        have hS := hS.up hQ.keep
        refine ed no rfl rfl (dv_pick (t := true) rfl rfl) ?_
        refine ed no rfl rfl (dv_assign rfl) ?_
        refine E_nil ?_
        refine th_norm ?_
        refine AWp_ret (?_)
        refine ret_of ?_
        refine readsRes_of (rs := [.tmp 4]) (vs := [no]) rfl (re_cons (re_tmp rfl) (re_nil)) rfl ?_
        refine .inr (?_)
        refine ⟨?_, rfl, .base hS.keep⟩
        · have gg0 := getD_of hx2
          have gg1 := getD_of hx3
          have gg2 := getD_of hx5
          unfold triP inP
          intro hh
          simp only [gg0, gg1, gg2] at hh
          omega
      ·
       have hS := hS.up hQ.keep
       refine ed no rfl rfl (dv_pick (t := true) rfl rfl) ?_
       refine ed no rfl rfl (dv_move rfl) ?_
       refine E_skip rfl rfl ?_
       refine E_skip rfl rfl ?_
       refine E_skip rfl rfl ?_
       refine E_skip rfl rfl ?_
       refine E_skip rfl rfl ?_
       refine E_skip rfl rfl ?_
       refine ed no rfl rfl (dv_pick (t := false) rfl rfl) ?_
       refine ed no rfl rfl (dv_assign rfl) ?_
       refine E_nil ?_
       refine th_norm ?_
       refine AWp_ret (?_)
       refine ret_of ?_
       refine readsRes_of (rs := [.tmp 4]) (vs := [no]) rfl (re_cons (re_tmp rfl) (re_nil)) rfl ?_
       refine .inr (?_)
       refine ⟨?_, rfl, .base hS.keep⟩
       · have gg0 := getD_of hx2
         have gg1 := getD_of hx3
         have gg2 := getD_of hx5
         unfold triP inP
         intro hh
         simp only [gg0, gg1, gg2] at hh
         omega
     ·
      have hS := hS.up hQ.keep
      refine ed no rfl rfl (dv_move rfl) ?_
      refine E_skip rfl rfl ?_
      refine E_skip rfl rfl ?_
      refine E_skip rfl rfl ?_
      refine E_skip rfl rfl ?_
      refine E_skip rfl rfl ?_
      refine E_skip rfl rfl ?_
      refine ed no rfl rfl (dv_pick (t := false) rfl rfl) ?_
      refine ed no rfl rfl (dv_move rfl) ?_
      refine E_skip rfl rfl ?_
      refine E_skip rfl rfl ?_
      refine E_skip rfl rfl ?_
      refine E_skip rfl rfl ?_
      refine E_skip rfl rfl ?_
      refine E_skip rfl rfl ?_
      refine ed no rfl rfl (dv_pick (t := false) rfl rfl) ?_
      refine ed no rfl rfl (dv_assign rfl) ?_
      refine E_nil ?_
      refine th_norm ?_
      refine AWp_ret (?_)
      refine ret_of ?_
      refine readsRes_of (rs := [.tmp 4]) (vs := [no]) rfl (re_cons (re_tmp rfl) (re_nil)) rfl ?_
      refine .inr (?_)
      refine ⟨?_, rfl, .base hS.keep⟩
      · have gg0 := getD_of hx2
        have gg1 := getD_of hx3
        have gg2 := getD_of hx5
        unfold triP inP
        intro hh
        simp only [gg0, gg1, gg2] at hh
        omega
theorem l02Is_ok (m_p m_o : Nat) (m : LM) (H : AH) (hmpv : PV H m_p m_o m.v) (hm : m.ok H) : ACalls Tryz.prog 113 [pt m_p m_o] H
  (fun r H' => (meshP m.ps.length (rxs m.ts) ∧ r = yes ∧ SepL H [] H') ∨ (¬(meshP m.ps.length (rxs m.ts)) ∧ r = no ∧ SepL H [] H')) := by
 refine ACalls_of Tryz.func113 rfl (Nat.le_of_ble_eq_true rfl) ?_
 obtain ⟨H0, hH0⟩ : ∃ H0, H0 = H := ⟨_, rfl⟩
 have hS : SepL H0 [] H := hH0 ▸ SepL.refl H
 subst hH0
 obtain ⟨⟨hm_ps, hm_pn, hm_pb⟩, hm_ts, hm_tn, hm_tb⟩ := id hm
 refine AWp_seq ?_
 refine AWp_E rfl ?_
 refine ed no rfl rfl (dv_assign rfl) ?_
 refine E_nil ?_
 refine th_norm ?_
 refine AWp_seq ?_
 refine AWp_seq ?_
 refine AWp_E rfl ?_
 refine ed (pt m_p m_o) rfl rfl (dv_move rfl) ?_
 refine ed (pt m_p m_o) rfl rfl (dv_nilCheck rfl) ?_
 refine ed (pt m_p m_o) rfl rfl (dv_fieldAddr rfl rfl) ?_
 refine ed (sv m.pa m.pn m.pc) rfl rfl (dv_load rfl (ld_pv (off := 0) (hmpv.keep hS.keep) rfl rfl rfl)) ?_
 refine ed (iv ((m.pn : Nat) : Int)) rfl rfl (dv_len rfl rfl rfl rfl rfl) ?_
 rcases Decidable.em ((64 : Int) < ((m.pn : Nat) : Int)) with hc1 | hc1
 ·
  refine ed yes rfl rfl (dv_bin rfl rfl (bi_gtr_t hc1)) ?_
  refine ed yes rfl rfl (dv_move rfl) ?_
  refine E_skip rfl rfl ?_
  refine E_skip rfl rfl ?_
  refine E_skip rfl rfl ?_
  refine E_skip rfl rfl ?_
  refine E_skip rfl rfl ?_
  refine E_skip rfl rfl ?_
  refine ed yes rfl rfl (dv_pick (t := true) rfl rfl) ?_
  refine E_nil ?_
  refine th_norm ?_
  refine AWp_cond (t := true) rfl (fun _ => ?_) nofun
  refine AWp_seq ?_
  refine AWp_E rfl ?_
  refine ed no rfl rfl (dv_assign rfl) ?_
  refine E_nil ?_
  refine th_norm ?_
  refine AWp_ret (th_ret (?_))
  refine ret_of ?_
  refine readsRes_of (rs := [.tmp 2]) (vs := [no]) rfl (re_cons (re_tmp rfl) (re_nil)) rfl ?_
  refine .inr (?_)
  refine ⟨?_, rfl, .base hS.keep⟩
  · intro hh
    first | (have k1 := hh.1; omega) | (have k2 := hh.2.1; rw [rxs, List.length_map] at k2; omega)
 ·
  refine ed no rfl rfl (dv_bin rfl rfl (bi_gtr_f hc1)) ?_
  refine ed no rfl rfl (dv_move rfl) ?_
  refine ed (pt m_p m_o) rfl rfl (dv_move rfl) ?_
  refine ed (pt m_p m_o) rfl rfl (dv_nilCheck rfl) ?_
  refine ed (pt m_p (m_o + 1)) rfl rfl (dv_fieldAddr rfl rfl) ?_
  refine ed (sv m.ta m.tn m.tc) rfl rfl (dv_load rfl (ld_pv (off := 1) (hmpv.keep hS.keep) rfl rfl rfl)) ?_
  refine ed (iv ((m.tn : Nat) : Int)) rfl rfl (dv_len rfl rfl rfl rfl rfl) ?_
  rcases Decidable.em ((128 : Int) < ((m.tn : Nat) : Int)) with hc2 | hc2
  ·
   refine ed yes rfl rfl (dv_bin rfl rfl (bi_gtr_t hc2)) ?_
   refine ed yes rfl rfl (dv_pick (t := false) rfl rfl) ?_
   refine E_nil ?_
   refine th_norm ?_
   refine AWp_cond (t := true) rfl (fun _ => ?_) nofun
   refine AWp_seq ?_
   refine AWp_E rfl ?_
   refine ed no rfl rfl (dv_assign rfl) ?_
   refine E_nil ?_
   refine th_norm ?_
   refine AWp_ret (th_ret (?_))
   refine ret_of ?_
   refine readsRes_of (rs := [.tmp 2]) (vs := [no]) rfl (re_cons (re_tmp rfl) (re_nil)) rfl ?_
   refine .inr (?_)
   refine ⟨?_, rfl, .base hS.keep⟩
   · intro hh
     first | (have k1 := hh.1; omega) | (have k2 := hh.2.1; rw [rxs, List.length_map] at k2; omega)
  ·
   refine ed no rfl rfl (dv_bin rfl rfl (bi_gtr_f hc2)) ?_
   refine ed no rfl rfl (dv_pick (t := false) rfl rfl) ?_
   refine E_nil ?_
   refine th_norm ?_
   refine AWp_cond (t := false) rfl nofun (fun _ => ?_)
   refine AWp_skip ?_
   refine th_norm ?_
   refine AWp_seq ?_
   refine AWp_seq ?_
   refine AWp_E rfl ?_
   refine ed (iv 0) rfl rfl (dv_assign rfl) ?_
   refine E_nil ?_
   refine th_norm ?_
   refine AWp_block ?_
   obtain ⟨I3, hI3⟩ : ∃ I : Nat → Env → AH → Prop, ∀ m_ e_ Hl, I m_ e_ Hl = (∃ (t2 : Bool) (i : Nat), m_ = m.tn - i ∧ AllE [(0, pt m_p m_o), (2, .bool t2), (3, iv ((i : Nat) : Int)), (4, pt m_p m_o), (5, pt m_p m_o), (6, pt m_p m_o), (7, sv m.pa m.pn m.pc), (8, iv ((m.pn : Nat) : Int)), (9, no), (10, no), (11, pt m_p m_o), (12, pt m_p m_o), (13, pt m_p (m_o + 1)), (14, sv m.ta m.tn m.tc), (15, iv ((m.tn : Nat) : Int)), (16, no), (17, no)] e_ ∧ SepL H0 [] Hl ∧ (i ≤ m.tn) ∧ (∀ t ∈ (rxs m.ts).take i, triP t (m.ps.length : Int))) := ⟨_, fun _ _ _ => rfl⟩
   refine AWp_loop I3 (m.tn - (0)) ?_ ?_
   ·
    rw [hI3]
    refine ⟨false, 0, rfl, (all_c rfl (all_c rfl (all_c rfl (all_c rfl (all_c rfl (all_c rfl (all_c rfl (all_c rfl (all_c rfl (all_c rfl (all_c rfl (all_c rfl (all_c rfl (all_c rfl (all_c rfl (all_c rfl (all_c rfl all_n))))))))))))))))), hS, ?_, ?_⟩
    · omega
    · simp
   ·
    intro m4 _ H hl5
    rw [hI3] at hl5
    obtain ⟨t2, i, hm6, he7, hS, hi, hall⟩ := hl5
    obtain ⟨e8, rfl⟩ := he7.ex
    refine AWp_seq ?_
    refine AWp_seq ?_
    refine AWp_E rfl ?_
    refine ed (iv ((i : Nat) : Int)) rfl rfl (dv_move rfl) ?_
    refine ed (pt m_p m_o) rfl rfl (dv_move rfl) ?_
    refine ed (pt m_p m_o) rfl rfl (dv_nilCheck rfl) ?_
    refine ed (pt m_p (m_o + 1)) rfl rfl (dv_fieldAddr rfl rfl) ?_
    refine ed (sv m.ta m.tn m.tc) rfl rfl (dv_load rfl (ld_pv (off := 1) (hmpv.keep hS.keep) rfl rfl rfl)) ?_
    refine ed (iv ((m.tn : Nat) : Int)) rfl rfl (dv_len rfl rfl rfl rfl rfl) ?_
    rcases Decidable.em (((i : Nat) : Int) < ((m.tn : Nat) : Int)) with hc9 | hc9
    ·
     refine ed yes rfl rfl (dv_bin rfl rfl (bi_lss_t hc9)) ?_
     refine E_nil ?_
     refine th_norm ?_
     refine AWp_cond (t := true) rfl (fun _ => ?_) nofun
     refine AWp_skip ?_
     refine th_norm ?_
     refine AWp_seq ?_
     refine AWp_block ?_
     refine AWp_seq ?_
     have hR := hS.pushes
     have hKb := hS.keep
     have hB := fun Hc (hc : Keep _ Hc) => hR [] Hc (.base hc)
     refine AWp_D0 rfl (by decide +kernel) fun hM => ?_
     refine wd (pt m_p m_o) rfl rfl (fun _ hc => dv_move rfl) ?_
     refine wd (pt m_p m_o) rfl rfl (fun _ hc => dv_nilCheck rfl) ?_
     refine wd (pt m_p (m_o + 1)) rfl rfl (fun _ hc => dv_fieldAddr rfl rfl) ?_
     refine wd (sv m.ta m.tn m.tc) rfl rfl (fun _ hc => dv_load rfl (ld_pv (off := 1) (hmpv.keep (hKb.trans hc)) rfl rfl rfl)) ?_
     refine wd (iv ((i : Nat) : Int)) rfl rfl (fun _ hc => dv_move rfl) ?_
     obtain ⟨x10, hx10⟩ := get_el (xs := m.ts) (i := i) (by omega)
     have hv11 := hm_ts.el hx10
     have hv11l := hv11.2
     refine wd (sp m.ta (i * 1)) rfl rfl (fun _ hc => dv_indexAddr (a := sv m.ta m.tn m.tc) (b := iv ((i : Nat) : Int)) rfl rfl (ix_sls (n := m.tn) (i := i) (hm_ts.1.keep (hKb.trans hc)) hx10 rfl rfl rfl (by omega))) ?_
     refine wd (sv x10.a x10.xs.length x10.c) rfl rfl (fun _ hc => dv_load rfl (ld_sls (sz := 1) (off := 0) (hm_ts.1.keep (hKb.trans hc)) hx10 (fun _ => rfl) rfl rfl rfl)) ?_
     refine wd (pt m_p m_o) rfl rfl (fun _ hc => dv_move rfl) ?_
     refine wd (pt m_p m_o) rfl rfl (fun _ hc => dv_nilCheck rfl) ?_
     refine wd (pt m_p m_o) rfl rfl (fun _ hc => dv_fieldAddr rfl rfl) ?_
     refine wd (sv m.pa m.pn m.pc) rfl rfl (fun _ hc => dv_load rfl (ld_pv (off := 0) (hmpv.keep (hKb.trans hc)) rfl rfl rfl)) ?_
     refine wd (iv ((m.pn : Nat) : Int)) rfl rfl (fun _ hc => dv_len rfl rfl rfl rfl rfl) ?_
     refine W_call (vs := [sv x10.a x10.xs.length x10.c, iv ((m.pn : Nat) : Int)]) rfl rfl rfl rfl rfl rfl rfl (l02Triangle_ok x10.a x10.xs.length x10.c x10.xs ((m.pn : Nat) : Int) _ ⟨(hv11.1.keep (hKb.trans hM.keep)), rfl, hv11.2⟩ (by first | assumption | omega | (simp only [*]; assumption) | (simp_all; done))) ?_
     rintro _ H (⟨h12, rfl, hQ⟩ | ⟨h13, rfl, hQ⟩)
     ·
      have hM := hM.up hQ.keep
      refine ⟨hM.keep, ?_⟩
      refine wd no rfl rfl (fun _ hc => dv_un rfl rfl) ?_
      have hS := hR _ _ hM
      refine W_nil ?_
      refine th_norm ?_
      refine AWp_cond (t := false) rfl nofun (fun _ => ?_)
      refine AWp_skip ?_
      refine bl_norm ?_
      refine th_norm ?_
      refine AWp_E rfl ?_
      refine ed (iv ((i : Nat) : Int)) rfl rfl (dv_move rfl) ?_
      refine ed (iv ((i + 1 : Nat) : Int)) rfl rfl (dv_bin rfl rfl (bi_add (by omega))) ?_
      refine ed (iv ((i + 1 : Nat) : Int)) rfl rfl (dv_assign rfl) ?_
      refine E_nil ?_
      refine loop_next (I := I3) (m.tn - (i + 1)) (by rw [hm6]; omega) ?_
      rw [hI3]
      refine ⟨t2, i + 1, rfl, (all_c rfl (all_c rfl (all_c rfl (all_c rfl (all_c rfl (all_c rfl (all_c rfl (all_c rfl (all_c rfl (all_c rfl (all_c rfl (all_c rfl (all_c rfl (all_c rfl (all_c rfl (all_c rfl (all_c rfl all_n))))))))))))))))), hS, ?_, ?_⟩
      · omega
      · rw [hm_pn] at *; exact all_take hall (map_get (f := Row.xs) hx10) h12
     ·
      have hM := hM.up hQ.keep
      refine ⟨hM.keep, ?_⟩
      refine wd yes rfl rfl (fun _ hc => dv_un rfl rfl) ?_
      have hS := hR _ _ hM
      refine W_nil ?_
      refine th_norm ?_
      refine AWp_cond (t := true) rfl (fun _ => ?_) nofun
      refine AWp_seq ?_
      refine AWp_E rfl ?_
      refine ed no rfl rfl (dv_assign rfl) ?_
      refine E_nil ?_
      refine th_norm ?_
      refine AWp_ret (bl_ret (th_ret (th_ret (bl_ret (th_ret (?_))))))
      refine ret_of ?_
      refine readsRes_of (rs := [.tmp 2]) (vs := [no]) rfl (re_cons (re_tmp rfl) (re_nil)) rfl ?_
      refine .inr (?_)
      refine ⟨?_, rfl, .base hS.keep⟩
      · intro hh
        have k3 := meshP_row hh hx10
        rw [hm_pn] at k3
        exact h13 k3
    ·
     refine ed no rfl rfl (dv_bin rfl rfl (bi_lss_f hc9)) ?_
     refine E_nil ?_
     refine th_norm ?_
     refine AWp_cond (t := false) rfl nofun (fun _ => ?_)
     refine AWp_exit (th_exit (th_exit (bl_exit (?_))))
     refine th_norm ?_
     refine AWp_seq ?_
     refine AWp_E rfl ?_
     refine ed yes rfl rfl (dv_assign rfl) ?_
     refine E_nil ?_
     refine th_norm ?_
     refine AWp_ret (?_)
     refine ret_of ?_
     refine readsRes_of (rs := [.tmp 2]) (vs := [yes]) rfl (re_cons (re_tmp rfl) (re_nil)) rfl ?_
     refine .inl ?_
     refine ⟨?_, rfl, .base hS.keep⟩
     · refine ⟨by omega, by rw [rxs, List.length_map]; omega, fun t ht => hall t ?_⟩
       rw [List.take_of_length_le (by rw [rxs, List.length_map]; omega)]; exact ht
theorem ValidMesh_ok (m : LM) (H : AH) (hm : m.ok H) : ACalls Tryz.prog 144 [mva m] H
  (fun r H' => (meshP m.ps.length (rxs m.ts) ∧ r = yes ∧ SepL H [] H') ∨ (¬(meshP m.ps.length (rxs m.ts)) ∧ r = no ∧ SepL H [] H')) := by
 refine ACalls_of Tryz.func144 rfl (Nat.le_of_ble_eq_true rfl) ?_
 obtain ⟨H0, hH0⟩ : ∃ H0, H0 = H := ⟨_, rfl⟩
 have hS : SepL H0 [] H := hH0 ▸ SepL.refl H
 subst hH0
 obtain ⟨⟨hm_ps, hm_pn, hm_pb⟩, hm_ts, hm_tn, hm_tb⟩ := id hm
 refine AWp_seq ?_
 refine AWp_E rfl ?_
 refine S_box (l := [sv m.pa m.pn m.pc, sv m.ta m.tn m.tc]) hS rfl rfl rfl rfl rfl fun b1 H hS => ?_
 refine ed no rfl rfl (dv_assign rfl) ?_
 refine E_nil ?_
 refine th_norm ?_
 refine AWp_seq ?_
 refine AWp_E rfl ?_
 refine ed (pt b1 0) rfl rfl (dv_fieldAddr rfl rfl) ?_
 refine ed (sv m.pa m.pn m.pc) rfl rfl (dv_load rfl (ld_box (hS.box 0 rfl) rfl rfl rfl)) ?_
 refine ed (iv ((m.pn : Nat) : Int)) rfl rfl (dv_len rfl rfl rfl rfl rfl) ?_
 refine ed (iv ((m.pn : Nat) : Int)) rfl rfl (dv_assign rfl) ?_
 refine E_nil ?_
 refine th_norm ?_
 refine AWp_seq ?_
 refine AWp_seq ?_
 refine AWp_E rfl ?_
 refine ed (iv ((m.pn : Nat) : Int)) rfl rfl (dv_move rfl) ?_
 rcases Decidable.em ((64 : Int) < ((m.pn : Nat) : Int)) with hc2 | hc2
 ·
  refine ed yes rfl rfl (dv_bin rfl rfl (bi_gtr_t hc2)) ?_
  refine ed yes rfl rfl (dv_move rfl) ?_
  refine E_skip rfl rfl ?_
  refine E_skip rfl rfl ?_
  refine E_skip rfl rfl ?_
  refine E_skip rfl rfl ?_
  refine ed yes rfl rfl (dv_pick (t := true) rfl rfl) ?_
  refine E_nil ?_
  refine th_norm ?_
  refine AWp_cond (t := true) rfl (fun _ => ?_) nofun
  refine AWp_seq ?_
  refine AWp_E rfl ?_
  refine ed no rfl rfl (dv_assign rfl) ?_
  refine E_nil ?_
  refine th_norm ?_
  refine AWp_ret (th_ret (?_))
  refine ret_of ?_
  refine readsRes_of (rs := [.tmp 2]) (vs := [no]) rfl (re_cons (re_tmp rfl) (re_nil)) rfl ?_
  refine .inr (?_)
  refine ⟨?_, rfl, .base hS.keep⟩
  · intro hh
    first | (have k1 := hh.1; omega) | (have k2 := hh.2.1; rw [rxs, List.length_map] at k2; omega)
 ·
  refine ed no rfl rfl (dv_bin rfl rfl (bi_gtr_f hc2)) ?_
  refine ed no rfl rfl (dv_move rfl) ?_
  refine ed (pt b1 1) rfl rfl (dv_fieldAddr rfl rfl) ?_
  refine ed (sv m.ta m.tn m.tc) rfl rfl (dv_load rfl (ld_box (hS.box 0 rfl) rfl rfl rfl)) ?_
  refine ed (iv ((m.tn : Nat) : Int)) rfl rfl (dv_len rfl rfl rfl rfl rfl) ?_
  rcases Decidable.em ((128 : Int) < ((m.tn : Nat) : Int)) with hc3 | hc3
  ·
   refine ed yes rfl rfl (dv_bin rfl rfl (bi_gtr_t hc3)) ?_
   refine ed yes rfl rfl (dv_pick (t := false) rfl rfl) ?_
   refine E_nil ?_
   refine th_norm ?_
   refine AWp_cond (t := true) rfl (fun _ => ?_) nofun
   refine AWp_seq ?_
   refine AWp_E rfl ?_
   refine ed no rfl rfl (dv_assign rfl) ?_
   refine E_nil ?_
   refine th_norm ?_
   refine AWp_ret (th_ret (?_))
   refine ret_of ?_
   refine readsRes_of (rs := [.tmp 2]) (vs := [no]) rfl (re_cons (re_tmp rfl) (re_nil)) rfl ?_
   refine .inr (?_)
   refine ⟨?_, rfl, .base hS.keep⟩
   · intro hh
     first | (have k1 := hh.1; omega) | (have k2 := hh.2.1; rw [rxs, List.length_map] at k2; omega)
  ·
   refine ed no rfl rfl (dv_bin rfl rfl (bi_gtr_f hc3)) ?_
   refine ed no rfl rfl (dv_pick (t := false) rfl rfl) ?_
   refine E_nil ?_
   refine th_norm ?_
   refine AWp_cond (t := false) rfl nofun (fun _ => ?_)
   refine AWp_skip ?_
   refine th_norm ?_
   refine AWp_seq ?_
   refine AWp_seq ?_
   refine AWp_E rfl ?_
   refine ed (pt b1 1) rfl rfl (dv_fieldAddr rfl rfl) ?_
   refine ed (sv m.ta m.tn m.tc) rfl rfl (dv_load rfl (ld_box (hS.box 0 rfl) rfl rfl rfl)) ?_
   refine ed (iv ((m.tn : Nat) : Int)) rfl rfl (dv_len rfl rfl rfl rfl rfl) ?_
   refine ed (iv 0) rfl rfl (dv_move rfl) ?_
   refine E_nil ?_
   refine th_norm ?_
   refine AWp_block ?_
   obtain ⟨I4, hI4⟩ : ∃ I : Nat → Env → AH → Prop, ∀ m_ e_ Hl, I m_ e_ Hl = (∃ (t2 : Bool) (i : Nat), m_ = m.tn - i ∧ AllE [(0, mva m), (1, pt b1 0), (2, .bool t2), (3, iv ((m.pn : Nat) : Int)), (8, pt b1 0), (9, sv m.pa m.pn m.pc), (10, iv ((m.pn : Nat) : Int)), (11, iv ((m.pn : Nat) : Int)), (12, no), (13, no), (14, pt b1 1), (15, sv m.ta m.tn m.tc), (16, iv ((m.tn : Nat) : Int)), (17, no), (18, no), (19, pt b1 1), (20, sv m.ta m.tn m.tc), (21, iv ((m.tn : Nat) : Int)), (22, iv ((i : Nat) : Int))] e_ ∧ SepL H0 [box b1 [sv m.pa m.pn m.pc, sv m.ta m.tn m.tc] 39] Hl ∧ (i ≤ m.tn) ∧ (∀ t ∈ (rxs m.ts).take i, triP t (m.ps.length : Int))) := ⟨_, fun _ _ _ => rfl⟩
   refine AWp_loop I4 (m.tn - (0)) ?_ ?_
   ·
    rw [hI4]
    refine ⟨false, 0, rfl, (all_c rfl (all_c rfl (all_c rfl (all_c rfl (all_c rfl (all_c rfl (all_c rfl (all_c rfl (all_c rfl (all_c rfl (all_c rfl (all_c rfl (all_c rfl (all_c rfl (all_c rfl (all_c rfl (all_c rfl (all_c rfl (all_c rfl all_n))))))))))))))))))), hS, ?_, ?_⟩
    · omega
    · simp
   ·
    intro m5 _ H hl6
    rw [hI4] at hl6
    obtain ⟨t2, i, hm7, he8, hS, hi, hall⟩ := hl6
    obtain ⟨e9, rfl⟩ := he8.ex
    refine AWp_seq ?_
    refine AWp_E rfl ?_
    rcases Decidable.em (((i : Nat) : Int) < ((m.tn : Nat) : Int)) with hc10 | hc10
    ·
     refine ed yes rfl rfl (dv_bin rfl rfl (bi_lss_t hc10)) ?_
     refine E_nil ?_
     refine th_norm ?_
     refine AWp_seq ?_
     refine AWp_cond (t := true) rfl (fun _ => ?_) nofun
     refine AWp_skip ?_
     refine th_norm ?_
     refine AWp_seq ?_
     refine AWp_block ?_
     refine AWp_seq ?_
     refine AWp_E rfl ?_
     obtain ⟨x11, hx11⟩ := get_el (xs := m.ts) (i := i) (by omega)
     have hv12 := hm_ts.el hx11
     have hv12l := hv12.2
     refine ed (sp m.ta (i * 1)) rfl rfl (dv_indexAddr (a := sv m.ta m.tn m.tc) (b := iv ((i : Nat) : Int)) rfl rfl (ix_sls (n := m.tn) (i := i) (hm_ts.1.keep hS.keep) hx11 rfl rfl rfl (by omega))) ?_
     refine ed (sv x11.a x11.xs.length x11.c) rfl rfl (dv_load rfl (ld_sls (sz := 1) (off := 0) (hm_ts.1.keep hS.keep) hx11 (fun _ => rfl) rfl rfl rfl)) ?_
     refine ed (sv x11.a x11.xs.length x11.c) rfl rfl (dv_assign rfl) ?_
     refine E_nil ?_
     refine th_norm ?_
     refine AWp_seq ?_
     refine AWp_seq ?_
     have hR := hS.pushes
     have hKb := hS.keep
     have hB := fun Hc (hc : Keep _ Hc) => hR [] Hc (.base hc)
     refine AWp_D0 rfl (by decide +kernel) fun hM => ?_
     refine wd (sv x11.a x11.xs.length x11.c) rfl rfl (fun _ hc => dv_move rfl) ?_
     refine wd (iv ((x11.xs.length : Nat) : Int)) rfl rfl (fun _ hc => dv_len rfl rfl rfl rfl rfl) ?_
     rcases Decidable.em (((x11.xs.length : Nat) : Int) ≠ 3) with hc13 | hc13
     ·
      refine wd yes rfl rfl (fun _ hc => dv_bin rfl rfl (bi_neq_t hc13)) ?_
      refine wd yes rfl rfl (fun _ hc => dv_move rfl) ?_
      refine W_skip rfl rfl ?_
      refine W_skip rfl rfl ?_
      refine W_skip rfl rfl ?_
      refine W_skip rfl rfl ?_
      refine W_skip rfl rfl ?_
      refine W_skip rfl rfl ?_
      refine W_skip rfl rfl ?_
      refine wd yes rfl rfl (fun _ hc => dv_pick (t := true) rfl rfl) ?_
      refine wd yes rfl rfl (fun _ hc => dv_move rfl) ?_
      refine W_skip rfl rfl ?_
      refine W_skip rfl rfl ?_
      refine W_skip rfl rfl ?_
      refine W_skip rfl rfl ?_
      refine W_skip rfl rfl ?_
      refine W_skip rfl rfl ?_
      refine W_skip rfl rfl ?_
      refine wd yes rfl rfl (fun _ hc => dv_pick (t := true) rfl rfl) ?_
      refine wd yes rfl rfl (fun _ hc => dv_move rfl) ?_
      refine W_skip rfl rfl ?_
      refine W_skip rfl rfl ?_
      refine W_skip rfl rfl ?_
      refine W_skip rfl rfl ?_
      refine W_skip rfl rfl ?_
      refine W_skip rfl rfl ?_
      refine W_skip rfl rfl ?_
      refine wd yes rfl rfl (fun _ hc => dv_pick (t := true) rfl rfl) ?_
      have hS := hR _ _ hM
      refine W_nil ?_
      refine th_norm ?_
      refine AWp_cond (t := true) rfl (fun _ => ?_) nofun
      refine AWp_seq ?_
      refine AWp_E rfl ?_
      refine ed no rfl rfl (dv_assign rfl) ?_
      refine E_nil ?_
      refine th_norm ?_
      refine AWp_ret (th_ret (bl_ret (th_ret (th_ret (bl_ret (th_ret (?_)))))))
      refine ret_of ?_
      refine readsRes_of (rs := [.tmp 2]) (vs := [no]) rfl (re_cons (re_tmp rfl) (re_nil)) rfl ?_
      refine .inr (?_)
      refine ⟨?_, rfl, .base hS.keep⟩
      · intro hh
        have k3 := meshP_row hh hx11
        unfold triP inP at k3
        omega
     ·
      refine wd no rfl rfl (fun _ hc => dv_bin rfl rfl (bi_neq_f hc13)) ?_
      refine wd no rfl rfl (fun _ hc => dv_move rfl) ?_
      refine wd (sv x11.a x11.xs.length x11.c) rfl rfl (fun _ hc => dv_move rfl) ?_
      obtain ⟨x14, hx14⟩ := get_el (xs := x11.xs) (i := 0) (by omega)
      refine wd (sp x11.a (0 * 1)) rfl rfl (fun _ hc => dv_indexAddr (a := sv x11.a x11.xs.length x11.c) (b := iv 0) rfl rfl (ix_sls (n := x11.xs.length) (i := 0) (hv12.1.keep (hKb.trans hc)) hx14 rfl rfl rfl (get_lt hx14))) ?_
      refine wd (iv x14) rfl rfl (fun _ hc => dv_load rfl (ld_sls (sz := 1) (off := 0) (hv12.1.keep (hKb.trans hc)) hx14 (fun _ => rfl) rfl rfl rfl)) ?_
      refine wd (sv x11.a x11.xs.length x11.c) rfl rfl (fun _ hc => dv_move rfl) ?_
      obtain ⟨x15, hx15⟩ := get_el (xs := x11.xs) (i := 1) (by omega)
      refine wd (sp x11.a (1 * 1)) rfl rfl (fun _ hc => dv_indexAddr (a := sv x11.a x11.xs.length x11.c) (b := iv 1) rfl rfl (ix_sls (n := x11.xs.length) (i := 1) (hv12.1.keep (hKb.trans hc)) hx15 rfl rfl rfl (get_lt hx15))) ?_
      refine wd (iv x15) rfl rfl (fun _ hc => dv_load rfl (ld_sls (sz := 1) (off := 0) (hv12.1.keep (hKb.trans hc)) hx15 (fun _ => rfl) rfl rfl rfl)) ?_
      rcases Decidable.em ((x14 : Int) = x15) with hc16 | hc16
      ·
       refine wd yes rfl rfl (fun _ hc => dv_bin rfl rfl (bi_eql_t hc16)) ?_
       refine wd yes rfl rfl (fun _ hc => dv_pick (t := false) rfl rfl) ?_
       refine wd yes rfl rfl (fun _ hc => dv_move rfl) ?_
       refine W_skip rfl rfl ?_
       refine W_skip rfl rfl ?_
       refine W_skip rfl rfl ?_
       refine W_skip rfl rfl ?_
       refine W_skip rfl rfl ?_
       refine W_skip rfl rfl ?_
       refine W_skip rfl rfl ?_
       refine wd yes rfl rfl (fun _ hc => dv_pick (t := true) rfl rfl) ?_
       refine wd yes rfl rfl (fun _ hc => dv_move rfl) ?_
       refine W_skip rfl rfl ?_
       refine W_skip rfl rfl ?_
       refine W_skip rfl rfl ?_
       refine W_skip rfl rfl ?_
       refine W_skip rfl rfl ?_
       refine W_skip rfl rfl ?_
       refine W_skip rfl rfl ?_
       refine wd yes rfl rfl (fun _ hc => dv_pick (t := true) rfl rfl) ?_
       have hS := hR _ _ hM
       refine W_nil ?_
       refine th_norm ?_
       refine AWp_cond (t := true) rfl (fun _ => ?_) nofun
       refine AWp_seq ?_
       refine AWp_E rfl ?_
       refine ed no rfl rfl (dv_assign rfl) ?_
       refine E_nil ?_
       refine th_norm ?_
       refine AWp_ret (th_ret (bl_ret (th_ret (th_ret (bl_ret (th_ret (?_)))))))
       refine ret_of ?_
       refine readsRes_of (rs := [.tmp 2]) (vs := [no]) rfl (re_cons (re_tmp rfl) (re_nil)) rfl ?_
       refine .inr (?_)
       refine ⟨?_, rfl, .base hS.keep⟩
       · intro hh
         have k3 := meshP_row hh hx11
         have gg0 := getD_of hx14
         have gg1 := getD_of hx15
         unfold triP inP at k3
         simp only [gg0, gg1] at k3
         omega
      ·
       refine wd no rfl rfl (fun _ hc => dv_bin rfl rfl (bi_eql_f hc16)) ?_
       refine wd no rfl rfl (fun _ hc => dv_pick (t := false) rfl rfl) ?_
       refine wd no rfl rfl (fun _ hc => dv_move rfl) ?_
       refine wd (sv x11.a x11.xs.length x11.c) rfl rfl (fun _ hc => dv_move rfl) ?_
       refine wd (sp x11.a (1 * 1)) rfl rfl (fun _ hc => dv_indexAddr (a := sv x11.a x11.xs.length x11.c) (b := iv 1) rfl rfl (ix_sls (n := x11.xs.length) (i := 1) (hv12.1.keep (hKb.trans hc)) hx15 rfl rfl rfl (get_lt hx15))) ?_
       refine wd (iv x15) rfl rfl (fun _ hc => dv_load rfl (ld_sls (sz := 1) (off := 0) (hv12.1.keep (hKb.trans hc)) hx15 (fun _ => rfl) rfl rfl rfl)) ?_
       refine wd (sv x11.a x11.xs.length x11.c) rfl rfl (fun _ hc => dv_move rfl) ?_
       obtain ⟨x17, hx17⟩ := get_el (xs := x11.xs) (i := 2) (by omega)
       refine wd (sp x11.a (2 * 1)) rfl rfl (fun _ hc => dv_indexAddr (a := sv x11.a x11.xs.length x11.c) (b := iv 2) rfl rfl (ix_sls (n := x11.xs.length) (i := 2) (hv12.1.keep (hKb.trans hc)) hx17 rfl rfl rfl (get_lt hx17))) ?_
       refine wd (iv x17) rfl rfl (fun _ hc => dv_load rfl (ld_sls (sz := 1) (off := 0) (hv12.1.keep (hKb.trans hc)) hx17 (fun _ => rfl) rfl rfl rfl)) ?_
       rcases Decidable.em ((x15 : Int) = x17) with hc18 | hc18
       ·
        refine wd yes rfl rfl (fun _ hc => dv_bin rfl rfl (bi_eql_t hc18)) ?_
        refine wd yes rfl rfl (fun _ hc => dv_pick (t := false) rfl rfl) ?_
        refine wd yes rfl rfl (fun _ hc => dv_move rfl) ?_
        refine W_skip rfl rfl ?_
        refine W_skip rfl rfl ?_
        refine W_skip rfl rfl ?_
        refine W_skip rfl rfl ?_
        refine W_skip rfl rfl ?_
        refine W_skip rfl rfl ?_
        refine W_skip rfl rfl ?_
        refine wd yes rfl rfl (fun _ hc => dv_pick (t := true) rfl rfl) ?_
        have hS := hR _ _ hM
        refine W_nil ?_
        refine th_norm ?_
        refine AWp_cond (t := true) rfl (fun _ => ?_) nofun
        refine AWp_seq ?_
        refine AWp_E rfl ?_
        refine ed no rfl rfl (dv_assign rfl) ?_
        refine E_nil ?_
        refine th_norm ?_
        refine AWp_ret (th_ret (bl_ret (th_ret (th_ret (bl_ret (th_ret (?_)))))))
        refine ret_of ?_
        refine readsRes_of (rs := [.tmp 2]) (vs := [no]) rfl (re_cons (re_tmp rfl) (re_nil)) rfl ?_
        refine .inr (?_)
        refine ⟨?_, rfl, .base hS.keep⟩
        · intro hh
          have k3 := meshP_row hh hx11
          have gg0 := getD_of hx14
          have gg1 := getD_of hx15
          have gg2 := getD_of hx17
          unfold triP inP at k3
          simp only [gg0, gg1, gg2] at k3
          omega
       ·
        refine wd no rfl rfl (fun _ hc => dv_bin rfl rfl (bi_eql_f hc18)) ?_
        refine wd no rfl rfl (fun _ hc => dv_pick (t := false) rfl rfl) ?_
        refine wd no rfl rfl (fun _ hc => dv_move rfl) ?_
        refine wd (sv x11.a x11.xs.length x11.c) rfl rfl (fun _ hc => dv_move rfl) ?_
        refine wd (sp x11.a (0 * 1)) rfl rfl (fun _ hc => dv_indexAddr (a := sv x11.a x11.xs.length x11.c) (b := iv 0) rfl rfl (ix_sls (n := x11.xs.length) (i := 0) (hv12.1.keep (hKb.trans hc)) hx14 rfl rfl rfl (get_lt hx14))) ?_
        refine wd (iv x14) rfl rfl (fun _ hc => dv_load rfl (ld_sls (sz := 1) (off := 0) (hv12.1.keep (hKb.trans hc)) hx14 (fun _ => rfl) rfl rfl rfl)) ?_
        refine wd (sv x11.a x11.xs.length x11.c) rfl rfl (fun _ hc => dv_move rfl) ?_
        refine wd (sp x11.a (2 * 1)) rfl rfl (fun _ hc => dv_indexAddr (a := sv x11.a x11.xs.length x11.c) (b := iv 2) rfl rfl (ix_sls (n := x11.xs.length) (i := 2) (hv12.1.keep (hKb.trans hc)) hx17 rfl rfl rfl (get_lt hx17))) ?_
        refine wd (iv x17) rfl rfl (fun _ hc => dv_load rfl (ld_sls (sz := 1) (off := 0) (hv12.1.keep (hKb.trans hc)) hx17 (fun _ => rfl) rfl rfl rfl)) ?_
        rcases Decidable.em ((x14 : Int) = x17) with hc19 | hc19
        ·
         refine wd yes rfl rfl (fun _ hc => dv_bin rfl rfl (bi_eql_t hc19)) ?_
         refine wd yes rfl rfl (fun _ hc => dv_pick (t := false) rfl rfl) ?_
         have hS := hR _ _ hM
         refine W_nil ?_
         refine th_norm ?_
         refine AWp_cond (t := true) rfl (fun _ => ?_) nofun
         refine AWp_seq ?_
         refine AWp_E rfl ?_
         refine ed no rfl rfl (dv_assign rfl) ?_
         refine E_nil ?_
         refine th_norm ?_
         refine AWp_ret (th_ret (bl_ret (th_ret (th_ret (bl_ret (th_ret (?_)))))))
         refine ret_of ?_
         refine readsRes_of (rs := [.tmp 2]) (vs := [no]) rfl (re_cons (re_tmp rfl) (re_nil)) rfl ?_
         refine .inr (?_)
         refine ⟨?_, rfl, .base hS.keep⟩
         · intro hh
           have k3 := meshP_row hh hx11
           have gg0 := getD_of hx14
           have gg1 := getD_of hx15
           have gg2 := getD_of hx17
           unfold triP inP at k3
           simp only [gg0, gg1, gg2] at k3
           omega
        ·
         refine wd no rfl rfl (fun _ hc => dv_bin rfl rfl (bi_eql_f hc19)) ?_
         refine wd no rfl rfl (fun _ hc => dv_pick (t := false) rfl rfl) ?_
         have hS := hR _ _ hM
         refine W_nil ?_
         refine th_norm ?_
         refine AWp_cond (t := false) rfl nofun (fun _ => ?_)
         refine AWp_skip ?_
         refine th_norm ?_
         refine AWp_seq ?_
         refine AWp_E rfl ?_
         refine ed (sv x11.a x11.xs.length x11.c) rfl rfl (dv_move rfl) ?_
         refine ed (iv ((x11.xs.length : Nat) : Int)) rfl rfl (dv_len rfl rfl rfl rfl rfl) ?_
         refine ed (iv 0) rfl rfl (dv_move rfl) ?_
         refine E_nil ?_
         refine th_norm ?_
         refine AWp_block ?_
         obtain ⟨I20, hI20⟩ : ∃ I : Nat → Env → AH → Prop, ∀ m_ e_ Hl, I m_ e_ Hl = (∃ (t2 : Bool) (j : Nat), m_ = x11.xs.length - j ∧ AllE [(0, mva m), (1, pt b1 0), (2, .bool t2), (3, iv ((m.pn : Nat) : Int)), (5, sv x11.a x11.xs.length x11.c), (8, pt b1 0), (9, sv m.pa m.pn m.pc), (10, iv ((m.pn : Nat) : Int)), (11, iv ((m.pn : Nat) : Int)), (12, no), (13, no), (14, pt b1 1), (15, sv m.ta m.tn m.tc), (16, iv ((m.tn : Nat) : Int)), (17, no), (18, no), (19, pt b1 1), (20, sv m.ta m.tn m.tc), (21, iv ((m.tn : Nat) : Int)), (22, iv ((i : Nat) : Int)), (23, yes), (24, sp m.ta (i * 1)), (25, sv x11.a x11.xs.length x11.c), (26, sv x11.a x11.xs.length x11.c), (27, iv ((x11.xs.length : Nat) : Int)), (28, no), (29, no), (30, sv x11.a x11.xs.length x11.c), (31, sp x11.a (0 * 1)), (32, iv x14), (33, sv x11.a x11.xs.length x11.c), (34, sp x11.a (1 * 1)), (35, iv x15), (36, no), (37, no), (38, no), (39, sv x11.a x11.xs.length x11.c), (40, sp x11.a (1 * 1)), (41, iv x15), (42, sv x11.a x11.xs.length x11.c), (43, sp x11.a (2 * 1)), (44, iv x17), (45, no), (46, no), (47, no), (48, sv x11.a x11.xs.length x11.c), (49, sp x11.a (0 * 1)), (50, iv x14), (51, sv x11.a x11.xs.length x11.c), (52, sp x11.a (2 * 1)), (53, iv x17), (54, no), (55, no), (56, sv x11.a x11.xs.length x11.c), (57, iv ((x11.xs.length : Nat) : Int)), (58, iv ((j : Nat) : Int))] e_ ∧ SepL H0 [box b1 [sv m.pa m.pn m.pc, sv m.ta m.tn m.tc] 39] Hl ∧ (j ≤ x11.xs.length) ∧ (∀ p ∈ x11.xs.take j, inP p (m.ps.length : Int))) := ⟨_, fun _ _ _ => rfl⟩
         refine AWp_loop I20 (x11.xs.length - (0)) ?_ ?_
         ·
          rw [hI20]
          refine ⟨t2, 0, rfl, (all_c rfl (all_c rfl (all_c rfl (all_c rfl (all_c rfl (all_c rfl (all_c rfl (all_c rfl (all_c rfl (all_c rfl (all_c rfl (all_c rfl (all_c rfl (all_c rfl (all_c rfl (all_c rfl (all_c rfl (all_c rfl (all_c rfl (all_c rfl (all_c rfl (all_c rfl (all_c rfl (all_c rfl (all_c rfl (all_c rfl (all_c rfl (all_c rfl (all_c rfl (all_c rfl (all_c rfl (all_c rfl (all_c rfl (all_c rfl (all_c rfl (all_c rfl (all_c rfl (all_c rfl (all_c rfl (all_c rfl (all_c rfl (all_c rfl (all_c rfl (all_c rfl (all_c rfl (all_c rfl (all_c rfl (all_c rfl (all_c rfl (all_c rfl (all_c rfl (all_c rfl (all_c rfl (all_c rfl (all_c rfl (all_c rfl all_n)))))))))))))))))))))))))))))))))))))))))))))))))))))))), hS, ?_, ?_⟩
          · omega
          · simp
         ·
          intro m21 _ H hl22
          rw [hI20] at hl22
          obtain ⟨t2, j, hm23, he24, hS, hj, hin⟩ := hl22
          obtain ⟨e25, rfl⟩ := he24.ex
          refine AWp_seq ?_
          refine AWp_E rfl ?_
          rcases Decidable.em (((j : Nat) : Int) < ((x11.xs.length : Nat) : Int)) with hc26 | hc26
          ·
           refine ed yes rfl rfl (dv_bin rfl rfl (bi_lss_t hc26)) ?_
           refine E_nil ?_
           refine th_norm ?_
           refine AWp_seq ?_
           refine AWp_cond (t := true) rfl (fun _ => ?_) nofun
           refine AWp_skip ?_
           refine th_norm ?_
           refine AWp_seq ?_
           refine AWp_block ?_
           refine AWp_seq ?_
           refine AWp_E rfl ?_
           obtain ⟨x27, hx27⟩ := get_el (xs := x11.xs) (i := j) (by omega)
           refine ed (sp x11.a (j * 1)) rfl rfl (dv_indexAddr (a := sv x11.a x11.xs.length x11.c) (b := iv ((j : Nat) : Int)) rfl rfl (ix_sls (n := x11.xs.length) (i := j) (hv12.1.keep hS.keep) hx27 rfl rfl rfl (get_lt hx27))) ?_
           refine ed (iv x27) rfl rfl (dv_load rfl (ld_sls (sz := 1) (off := 0) (hv12.1.keep hS.keep) hx27 (fun _ => rfl) rfl rfl rfl)) ?_
           refine ed (iv x27) rfl rfl (dv_assign rfl) ?_
           refine E_nil ?_
           refine th_norm ?_
           refine AWp_seq ?_
           refine AWp_E rfl ?_
           refine ed (iv x27) rfl rfl (dv_move rfl) ?_
           refine ed (iv ((m.pn : Nat) : Int)) rfl rfl (dv_move rfl) ?_
           refine ed (iv (((m.pn : Nat) : Int) - 1)) rfl rfl (dv_bin rfl rfl (bi_sub (by omega))) ?_
           refine E_call (vs := [iv x27, iv 0, iv (((m.pn : Nat) : Int) - 1)]) rfl rfl rfl rfl rfl rfl rfl (within_ok x27 0 (((m.pn : Nat) : Int) - 1) _) ?_
           rintro _ H (⟨h28, rfl, hQ⟩ | ⟨h29, rfl, hQ⟩)
           ·
            have hS := hS.up hQ.keep
            refine ed no rfl rfl (dv_un rfl rfl) ?_
            refine E_nil ?_
            refine th_norm ?_
            refine AWp_cond (t := false) rfl nofun (fun _ => ?_)
            refine AWp_skip ?_
            refine bl_norm ?_
            refine th_norm ?_
            refine AWp_E rfl ?_
            refine ed (iv ((j + 1 : Nat) : Int)) rfl rfl (dv_bin rfl rfl (bi_add (by omega))) ?_
            refine ed (iv ((j + 1 : Nat) : Int)) rfl rfl (dv_move rfl) ?_
            refine E_nil ?_
            refine loop_next (I := I20) (x11.xs.length - (j + 1)) (by rw [hm23]; omega) ?_
            rw [hI20]
            refine ⟨t2, j + 1, rfl, (all_c rfl (all_c rfl (all_c rfl (all_c rfl (all_c rfl (all_c rfl (all_c rfl (all_c rfl (all_c rfl (all_c rfl (all_c rfl (all_c rfl (all_c rfl (all_c rfl (all_c rfl (all_c rfl (all_c rfl (all_c rfl (all_c rfl (all_c rfl (all_c rfl (all_c rfl (all_c rfl (all_c rfl (all_c rfl (all_c rfl (all_c rfl (all_c rfl (all_c rfl (all_c rfl (all_c rfl (all_c rfl (all_c rfl (all_c rfl (all_c rfl (all_c rfl (all_c rfl (all_c rfl (all_c rfl (all_c rfl (all_c rfl (all_c rfl (all_c rfl (all_c rfl (all_c rfl (all_c rfl (all_c rfl (all_c rfl (all_c rfl (all_c rfl (all_c rfl (all_c rfl (all_c rfl (all_c rfl (all_c rfl (all_c rfl all_n)))))))))))))))))))))))))))))))))))))))))))))))))))))))), hS, ?_, ?_⟩
            · omega
            · exact all_take hin hx27 (by unfold inP; omega)
           ·
            have hS := hS.up hQ.keep
            refine ed yes rfl rfl (dv_un rfl rfl) ?_
            refine E_nil ?_
            refine th_norm ?_
            refine AWp_cond (t := true) rfl (fun _ => ?_) nofun
            refine AWp_seq ?_
            refine AWp_E rfl ?_
            refine ed no rfl rfl (dv_assign rfl) ?_
            refine E_nil ?_
            refine th_norm ?_
            refine AWp_ret (bl_ret (th_ret (th_ret (bl_ret (bl_ret (th_ret (th_ret (bl_ret (th_ret (?_))))))))))
            refine ret_of ?_
            refine readsRes_of (rs := [.tmp 2]) (vs := [no]) rfl (re_cons (re_tmp rfl) (re_nil)) rfl ?_
            refine .inr (?_)
            refine ⟨?_, rfl, .base hS.keep⟩
            · intro hh
              have k3 := meshP_row hh hx11
              have gg0 := getD_of hx14
              have gg1 := getD_of hx15
              have gg2 := getD_of hx17
              have gg3 := getD_of hx27
              have k4 := triP_get k3 hx27
              unfold inP at k4
              omega
          ·
           refine ed no rfl rfl (dv_bin rfl rfl (bi_lss_f hc26)) ?_
           refine E_nil ?_
           refine th_norm ?_
           refine AWp_seq ?_
           refine AWp_cond (t := false) rfl nofun (fun _ => ?_)
           refine AWp_exit (th_exit (th_exit (bl_exit (?_))))
           refine bl_norm ?_
           refine th_norm ?_
           refine AWp_E rfl ?_
           refine ed (iv ((i + 1 : Nat) : Int)) rfl rfl (dv_bin rfl rfl (bi_add (by omega))) ?_
           refine ed (iv ((i + 1 : Nat) : Int)) rfl rfl (dv_move rfl) ?_
           refine E_nil ?_
           refine loop_next (I := I4) (m.tn - (i + 1)) (by rw [hm7]; omega) ?_
           rw [hI4]
           refine ⟨t2, i + 1, rfl, (all_c rfl (all_c rfl (all_c rfl (all_c rfl (all_c rfl (all_c rfl (all_c rfl (all_c rfl (all_c rfl (all_c rfl (all_c rfl (all_c rfl (all_c rfl (all_c rfl (all_c rfl (all_c rfl (all_c rfl (all_c rfl (all_c rfl all_n))))))))))))))))))), hS, ?_, ?_⟩
           · omega
           · exact all_take hall (map_get (f := Row.xs) hx11) (triP_of (by omega) hx14 hx15 hx17 (by omega) (by omega) (by omega) (fun p hp => hin p (by rw [List.take_of_length_le (by omega)]; exact hp)))
    ·
     refine ed no rfl rfl (dv_bin rfl rfl (bi_lss_f hc10)) ?_
     refine E_nil ?_
     refine th_norm ?_
     refine AWp_seq ?_
     refine AWp_cond (t := false) rfl nofun (fun _ => ?_)
     refine AWp_exit (th_exit (th_exit (bl_exit (?_))))
     refine th_norm ?_
     refine AWp_seq ?_
     refine AWp_E rfl ?_
     refine ed yes rfl rfl (dv_assign rfl) ?_
     refine E_nil ?_
     refine th_norm ?_
     refine AWp_ret (?_)
     refine ret_of ?_
     refine readsRes_of (rs := [.tmp 2]) (vs := [yes]) rfl (re_cons (re_tmp rfl) (re_nil)) rfl ?_
     refine .inl ?_
     refine ⟨?_, rfl, .base hS.keep⟩
     · refine ⟨by omega, by rw [rxs, List.length_map]; omega, fun t ht => hall t ?_⟩
       rw [List.take_of_length_le (by rw [rxs, List.length_map]; omega)]; exact ht
theorem l03Spring_ok (s_p s_o : Nat) (s : Spr) (n : Int) (H : AH) (hspv : PV H s_p s_o (encS s)) (hn : 0 ≤ n ∧ n ≤ 1048576) : ACalls Tryz.prog 114 [pt s_p s_o, iv n] H
  (fun r H' => (sprP n.toNat s ∧ r = yes ∧ SepL H [] H') ∨ (¬(sprP n.toNat s) ∧ r = no ∧ SepL H [] H')) := by
 refine ACalls_of Tryz.func114 rfl (Nat.le_of_ble_eq_true rfl) ?_
 obtain ⟨H0, hH0⟩ : ∃ H0, H0 = H := ⟨_, rfl⟩
 have hS : SepL H0 [] H := hH0 ▸ SepL.refl H
 subst hH0
 refine AWp_seq ?_
 refine AWp_E rfl ?_
 refine ed no rfl rfl (dv_assign rfl) ?_
 refine E_nil ?_
 refine th_norm ?_
 refine AWp_seq ?_
 have hR := hS.pushes
 have hKb := hS.keep
 have hB := fun Hc (hc : Keep _ Hc) => hR [] Hc (.base hc)
 refine AWp_D0 rfl (by decide +kernel) fun hM => ?_
 refine wd (pt s_p s_o) rfl rfl (fun _ hc => dv_move rfl) ?_
 refine wd (pt s_p s_o) rfl rfl (fun _ hc => dv_nilCheck rfl) ?_
 refine wd (pt s_p s_o) rfl rfl (fun _ hc => dv_fieldAddr rfl rfl) ?_
 refine wd (iv s.A) rfl rfl (fun _ hc => dv_load rfl (ld_pv (off := 0) (hspv.keep (hKb.trans hc)) rfl rfl rfl)) ?_
 refine wd (iv n) rfl rfl (fun _ hc => dv_move rfl) ?_
 refine wd (iv (n - 1)) rfl rfl (fun _ hc => dv_bin rfl rfl (bi_sub (by omega))) ?_
 refine W_call (vs := [iv s.A, iv 0, iv (n - 1)]) rfl rfl rfl rfl rfl rfl rfl (l00In_ok s.A 0 (n - 1) _) ?_
 rintro _ H (⟨h1, rfl, hQ⟩ | ⟨h2, rfl, hQ⟩)
 ·
  have hM := hM.up hQ.keep
  refine ⟨hM.keep, ?_⟩
  refine wd yes rfl rfl (fun _ hc => dv_move rfl) ?_
  refine wd (pt s_p s_o) rfl rfl (fun _ hc => dv_move rfl) ?_
  refine wd (pt s_p s_o) rfl rfl (fun _ hc => dv_nilCheck rfl) ?_
  refine wd (pt s_p (s_o + 1)) rfl rfl (fun _ hc => dv_fieldAddr rfl rfl) ?_
  refine wd (iv s.B) rfl rfl (fun _ hc => dv_load rfl (ld_pv (off := 1) (hspv.keep (hKb.trans hc)) rfl rfl rfl)) ?_
  refine wd (iv n) rfl rfl (fun _ hc => dv_move rfl) ?_
  refine wd (iv (n - 1)) rfl rfl (fun _ hc => dv_bin rfl rfl (bi_sub (by omega))) ?_
  refine W_call (vs := [iv s.B, iv 0, iv (n - 1)]) rfl rfl rfl rfl rfl rfl rfl (l00In_ok s.B 0 (n - 1) _) ?_
  rintro _ H (⟨h3, rfl, hQ⟩ | ⟨h4, rfl, hQ⟩)
  ·
   have hM := hM.up hQ.keep
   refine ⟨hM.keep, ?_⟩
   refine wd yes rfl rfl (fun _ hc => dv_pick (t := true) rfl rfl) ?_
   refine wd yes rfl rfl (fun _ hc => dv_move rfl) ?_
   refine wd (pt s_p s_o) rfl rfl (fun _ hc => dv_move rfl) ?_
   refine wd (pt s_p s_o) rfl rfl (fun _ hc => dv_nilCheck rfl) ?_
   refine wd (pt s_p s_o) rfl rfl (fun _ hc => dv_fieldAddr rfl rfl) ?_
   refine wd (iv s.A) rfl rfl (fun _ hc => dv_load rfl (ld_pv (off := 0) (hspv.keep (hKb.trans hc)) rfl rfl rfl)) ?_
   refine wd (pt s_p s_o) rfl rfl (fun _ hc => dv_move rfl) ?_
   refine wd (pt s_p s_o) rfl rfl (fun _ hc => dv_nilCheck rfl) ?_
   refine wd (pt s_p (s_o + 1)) rfl rfl (fun _ hc => dv_fieldAddr rfl rfl) ?_
   refine wd (iv s.B) rfl rfl (fun _ hc => dv_load rfl (ld_pv (off := 1) (hspv.keep (hKb.trans hc)) rfl rfl rfl)) ?_
   rcases Decidable.em ((s.A : Int) ≠ s.B) with hc5 | hc5
   ·
    refine wd yes rfl rfl (fun _ hc => dv_bin rfl rfl (bi_neq_t hc5)) ?_
    refine wd yes rfl rfl (fun _ hc => dv_pick (t := true) rfl rfl) ?_
    refine wd yes rfl rfl (fun _ hc => dv_move rfl) ?_
    refine wd (pt s_p s_o) rfl rfl (fun _ hc => dv_move rfl) ?_
    refine wd (pt s_p s_o) rfl rfl (fun _ hc => dv_nilCheck rfl) ?_
    refine wd (pt s_p (s_o + 2)) rfl rfl (fun _ hc => dv_fieldAddr rfl rfl) ?_
    refine wd (fl s.Long) rfl rfl (fun _ hc => dv_load rfl (ld_pv (off := 2) (hspv.keep (hKb.trans hc)) rfl rfl rfl)) ?_
    rcases Bool.eq_false_or_eq_true (fge .f32 s.Long 0) with hc6 | hc6
    ·
     refine wd yes rfl rfl (fun _ hc => dv_bin rfl rfl (isB bf_geq hc6)) ?_
     refine wd yes rfl rfl (fun _ hc => dv_pick (t := true) rfl rfl) ?_
     refine wd yes rfl rfl (fun _ hc => dv_assign rfl) ?_
     have hS := hR _ _ hM
     refine W_nil ?_
     refine th_norm ?_
     refine AWp_ret (?_)
     refine ret_of ?_
     refine readsRes_of (rs := [.tmp 4]) (vs := [yes]) rfl (re_cons (re_tmp rfl) (re_nil)) rfl ?_
     refine .inl ?_
     refine ⟨?_, rfl, .base hS.keep⟩
     · unfold sprP inP
       refine ⟨by omega, by omega, by omega, ?_⟩
       assumption
    ·
     refine wd no rfl rfl (fun _ hc => dv_bin rfl rfl (isB bf_geq hc6)) ?_
     refine wd no rfl rfl (fun _ hc => dv_pick (t := true) rfl rfl) ?_
     refine wd no rfl rfl (fun _ hc => dv_assign rfl) ?_
     have hS := hR _ _ hM
     refine W_nil ?_
     refine th_norm ?_
     refine AWp_ret (?_)
     refine ret_of ?_
     refine readsRes_of (rs := [.tmp 4]) (vs := [no]) rfl (re_cons (re_tmp rfl) (re_nil)) rfl ?_
     refine .inr (?_)
     refine ⟨?_, rfl, .base hS.keep⟩
     · unfold sprP
       intro hh
       have h5 := hh.2.2.2
       rw [hc6] at h5; cases h5
   ·
    refine wd no rfl rfl (fun _ hc => dv_bin rfl rfl (bi_neq_f hc5)) ?_
    refine wd no rfl rfl (fun _ hc => dv_pick (t := true) rfl rfl) ?_
    refine wd no rfl rfl (fun _ hc => dv_move rfl) ?_
    refine W_skip rfl rfl ?_
    refine W_skip rfl rfl ?_
    refine W_skip rfl rfl ?_
    refine W_skip rfl rfl ?_
    refine W_skip rfl rfl ?_
    refine wd no rfl rfl (fun _ hc => dv_pick (t := false) rfl rfl) ?_
    refine wd no rfl rfl (fun _ hc => dv_assign rfl) ?_
    have hS := hR _ _ hM
    refine W_nil ?_
    refine th_norm ?_
    refine AWp_ret (?_)
    refine ret_of ?_
    refine readsRes_of (rs := [.tmp 4]) (vs := [no]) rfl (re_cons (re_tmp rfl) (re_nil)) rfl ?_
    refine .inr (?_)
    refine ⟨?_, rfl, .base hS.keep⟩
    · unfold sprP inP
      intro hh
      omega
  ·
   have hM := hM.up hQ.keep
   refine ⟨hM.keep, ?_⟩
   refine wd no rfl rfl (fun _ hc => dv_pick (t := true) rfl rfl) ?_
   refine wd no rfl rfl (fun _ hc => dv_move rfl) ?_
   refine W_skip rfl rfl ?_
   refine W_skip rfl rfl ?_
   refine W_skip rfl rfl ?_
   refine W_skip rfl rfl ?_
   refine W_skip rfl rfl ?_
   refine W_skip rfl rfl ?_
   refine W_skip rfl rfl ?_
   refine W_skip rfl rfl ?_
   refine W_skip rfl rfl ?_
   refine wd no rfl rfl (fun _ hc => dv_pick (t := false) rfl rfl) ?_
   refine wd no rfl rfl (fun _ hc => dv_move rfl) ?_
   refine W_skip rfl rfl ?_
   refine W_skip rfl rfl ?_
   refine W_skip rfl rfl ?_
   refine W_skip rfl rfl ?_
   refine W_skip rfl rfl ?_
   refine wd no rfl rfl (fun _ hc => dv_pick (t := false) rfl rfl) ?_
   refine wd no rfl rfl (fun _ hc => dv_assign rfl) ?_
   have hS := hR _ _ hM
   refine W_nil ?_
   refine th_norm ?_
   refine AWp_ret (?_)
   refine ret_of ?_
   refine readsRes_of (rs := [.tmp 4]) (vs := [no]) rfl (re_cons (re_tmp rfl) (re_nil)) rfl ?_
   refine .inr (?_)
   refine ⟨?_, rfl, .base hS.keep⟩
   · unfold sprP inP
     intro hh
     omega
 ·
  have hM := hM.up hQ.keep
  refine ⟨hM.keep, ?_⟩
  refine wd no rfl rfl (fun _ hc => dv_move rfl) ?_
  refine W_skip rfl rfl ?_
  refine W_skip rfl rfl ?_
  refine W_skip rfl rfl ?_
  refine W_skip rfl rfl ?_
  refine W_skip rfl rfl ?_
  refine W_skip rfl rfl ?_
  refine W_skip rfl rfl ?_
  refine wd no rfl rfl (fun _ hc => dv_pick (t := false) rfl rfl) ?_
  refine wd no rfl rfl (fun _ hc => dv_move rfl) ?_
  refine W_skip rfl rfl ?_
  refine W_skip rfl rfl ?_
  refine W_skip rfl rfl ?_
  refine W_skip rfl rfl ?_
  refine W_skip rfl rfl ?_
  refine W_skip rfl rfl ?_
  refine W_skip rfl rfl ?_
  refine W_skip rfl rfl ?_
  refine W_skip rfl rfl ?_
  refine wd no rfl rfl (fun _ hc => dv_pick (t := false) rfl rfl) ?_
  refine wd no rfl rfl (fun _ hc => dv_move rfl) ?_
  refine W_skip rfl rfl ?_
  refine W_skip rfl rfl ?_
  refine W_skip rfl rfl ?_
  refine W_skip rfl rfl ?_
  refine W_skip rfl rfl ?_
  refine wd no rfl rfl (fun _ hc => dv_pick (t := false) rfl rfl) ?_
  refine wd no rfl rfl (fun _ hc => dv_assign rfl) ?_
  have hS := hR _ _ hM
  refine W_nil ?_
  refine th_norm ?_
  refine AWp_ret (?_)
  refine ret_of ?_
  refine readsRes_of (rs := [.tmp 4]) (vs := [no]) rfl (re_cons (re_tmp rfl) (re_nil)) rfl ?_
  refine .inr (?_)
  refine ⟨?_, rfl, .base hS.keep⟩
  · unfold sprP inP
    intro hh
    omega
theorem l03Is_ok (b_p b_o : Nat) (b : LB) (H : AH) (hbpv : PV H b_p b_o b.v) (hb : b.ok H) : ACalls Tryz.prog 84 [pt b_p b_o] H
  (fun r H' => (Bod.ok b.d ∧ r = yes ∧ SepL H [] H') ∨ (¬(Bod.ok b.d) ∧ r = no ∧ SepL H [] H')) := by
 refine ACalls_of Tryz.func84 rfl (Nat.le_of_ble_eq_true rfl) ?_
 obtain ⟨H0, hH0⟩ : ∃ H0, H0 = H := ⟨_, rfl⟩
 have hS : SepL H0 [] H := hH0 ▸ SepL.refl H
 subst hH0
 obtain ⟨⟨hb_1_ps, hb_1_pn, hb_1_pb⟩, hb_1_ts, hb_1_tn, hb_1_tb⟩ := id hb.1
 obtain ⟨⟨hb_ss, hb_sn, hb_sb⟩, hb_ws, hb_wn, hb_wb⟩ := hb.2
 refine AWp_seq ?_
 refine AWp_E rfl ?_
 refine ed no rfl rfl (dv_assign rfl) ?_
 refine E_nil ?_
 refine th_norm ?_
 refine AWp_seq ?_
 refine AWp_seq ?_
 have hR := hS.pushes
 have hKb := hS.keep
 have hB := fun Hc (hc : Keep _ Hc) => hR [] Hc (.base hc)
 refine AWp_D0 rfl (by decide +kernel) fun hM => ?_
 refine wd (pt b_p b_o) rfl rfl (fun _ hc => dv_move rfl) ?_
 refine wd (pt b_p b_o) rfl rfl (fun _ hc => dv_nilCheck rfl) ?_
 refine wd (pt b_p b_o) rfl rfl (fun _ hc => dv_fieldAddr rfl rfl) ?_
 refine W_call (vs := [pt b_p b_o]) rfl rfl rfl rfl rfl rfl rfl (l02Is_ok b_p b_o b.m _ (PV.sub (j := 0) (n := 2) (hbpv.keep (hKb.trans hM.keep)) rfl rfl) (hb.1.keep (hKb.trans hM.keep))) ?_
 rintro _ H (⟨h1, rfl, hQ⟩ | ⟨h2, rfl, hQ⟩)
 ·
  have hM := hM.up hQ.keep
  refine ⟨hM.keep, ?_⟩
  refine wd no rfl rfl (fun _ hc => dv_un rfl rfl) ?_
  refine wd no rfl rfl (fun _ hc => dv_move rfl) ?_
  refine wd (pt b_p b_o) rfl rfl (fun _ hc => dv_move rfl) ?_
  refine wd (pt b_p b_o) rfl rfl (fun _ hc => dv_nilCheck rfl) ?_
  refine wd (pt b_p (b_o + 2)) rfl rfl (fun _ hc => dv_fieldAddr rfl rfl) ?_
  refine wd (sv b.sa b.sn b.sc) rfl rfl (fun _ hc => dv_load rfl (ld_pv (off := 2) (hbpv.keep (hKb.trans hc)) rfl rfl rfl)) ?_
  refine wd (iv ((b.sn : Nat) : Int)) rfl rfl (fun _ hc => dv_len rfl rfl rfl rfl rfl) ?_
  rcases Decidable.em ((200 : Int) < ((b.sn : Nat) : Int)) with hc3 | hc3
  ·
   refine wd yes rfl rfl (fun _ hc => dv_bin rfl rfl (bi_gtr_t hc3)) ?_
   refine wd yes rfl rfl (fun _ hc => dv_pick (t := false) rfl rfl) ?_
   refine wd yes rfl rfl (fun _ hc => dv_move rfl) ?_
   refine W_skip rfl rfl ?_
   refine W_skip rfl rfl ?_
   refine W_skip rfl rfl ?_
   refine W_skip rfl rfl ?_
   refine W_skip rfl rfl ?_
   refine W_skip rfl rfl ?_
   refine W_skip rfl rfl ?_
   refine W_skip rfl rfl ?_
   refine W_skip rfl rfl ?_
   refine W_skip rfl rfl ?_
   refine W_skip rfl rfl ?_
   refine W_skip rfl rfl ?_
   refine wd yes rfl rfl (fun _ hc => dv_pick (t := true) rfl rfl) ?_
   have hS := hR _ _ hM
   refine W_nil ?_
   refine th_norm ?_
   refine AWp_cond (t := true) rfl (fun _ => ?_) nofun
   refine AWp_seq ?_
   refine AWp_E rfl ?_
   refine ed no rfl rfl (dv_assign rfl) ?_
   refine E_nil ?_
   refine th_norm ?_
   refine AWp_ret (th_ret (?_))
   refine ret_of ?_
   refine readsRes_of (rs := [.tmp 2]) (vs := [no]) rfl (re_cons (re_tmp rfl) (re_nil)) rfl ?_
   refine .inr (?_)
   refine ⟨?_, rfl, .base hS.keep⟩
   · intro hh
     have k1 : meshP b.m.ps.length (rxs b.m.ts) := hh.1
     have k2 : b.ss.length ≤ 200 := hh.2.1
     have k3 : b.ws.length = b.m.ps.length := hh.2.2.1
     omega
  ·
   refine wd no rfl rfl (fun _ hc => dv_bin rfl rfl (bi_gtr_f hc3)) ?_
   refine wd no rfl rfl (fun _ hc => dv_pick (t := false) rfl rfl) ?_
   refine wd no rfl rfl (fun _ hc => dv_move rfl) ?_
   refine wd (pt b_p b_o) rfl rfl (fun _ hc => dv_move rfl) ?_
   refine wd (pt b_p b_o) rfl rfl (fun _ hc => dv_nilCheck rfl) ?_
   refine wd (pt b_p (b_o + 5)) rfl rfl (fun _ hc => dv_fieldAddr rfl rfl) ?_
   refine wd (sv b.wa b.wn b.wc) rfl rfl (fun _ hc => dv_load rfl (ld_pv (off := 5) (hbpv.keep (hKb.trans hc)) rfl rfl rfl)) ?_
   refine wd (iv ((b.wn : Nat) : Int)) rfl rfl (fun _ hc => dv_len rfl rfl rfl rfl rfl) ?_
   refine wd (pt b_p b_o) rfl rfl (fun _ hc => dv_move rfl) ?_
   refine wd (pt b_p b_o) rfl rfl (fun _ hc => dv_nilCheck rfl) ?_
   refine wd (pt b_p b_o) rfl rfl (fun _ hc => dv_fieldAddr rfl rfl) ?_
   refine wd (pt b_p b_o) rfl rfl (fun _ hc => dv_fieldAddr rfl rfl) ?_
   refine wd (sv b.m.pa b.m.pn b.m.pc) rfl rfl (fun _ hc => dv_load rfl (ld_pv (off := 0) (hbpv.keep (hKb.trans hc)) rfl rfl rfl)) ?_
   refine wd (iv ((b.m.pn : Nat) : Int)) rfl rfl (fun _ hc => dv_len rfl rfl rfl rfl rfl) ?_
   rcases Decidable.em (((b.wn : Nat) : Int) ≠ ((b.m.pn : Nat) : Int)) with hc4 | hc4
   ·
    refine wd yes rfl rfl (fun _ hc => dv_bin rfl rfl (bi_neq_t hc4)) ?_
    refine wd yes rfl rfl (fun _ hc => dv_pick (t := false) rfl rfl) ?_
    have hS := hR _ _ hM
    refine W_nil ?_
    refine th_norm ?_
    refine AWp_cond (t := true) rfl (fun _ => ?_) nofun
    refine AWp_seq ?_
    refine AWp_E rfl ?_
    refine ed no rfl rfl (dv_assign rfl) ?_
    refine E_nil ?_
    refine th_norm ?_
    refine AWp_ret (th_ret (?_))
    refine ret_of ?_
    refine readsRes_of (rs := [.tmp 2]) (vs := [no]) rfl (re_cons (re_tmp rfl) (re_nil)) rfl ?_
    refine .inr (?_)
    refine ⟨?_, rfl, .base hS.keep⟩
    · intro hh
      have k1 : meshP b.m.ps.length (rxs b.m.ts) := hh.1
      have k2 : b.ss.length ≤ 200 := hh.2.1
      have k3 : b.ws.length = b.m.ps.length := hh.2.2.1
      omega
   ·
    refine wd no rfl rfl (fun _ hc => dv_bin rfl rfl (bi_neq_f hc4)) ?_
    refine wd no rfl rfl (fun _ hc => dv_pick (t := false) rfl rfl) ?_
    have hS := hR _ _ hM
    refine W_nil ?_
    refine th_norm ?_
    refine AWp_cond (t := false) rfl nofun (fun _ => ?_)
    refine AWp_skip ?_
    refine th_norm ?_
    refine AWp_seq ?_
    refine AWp_seq ?_
    refine AWp_E rfl ?_
    refine ed (pt b_p b_o) rfl rfl (dv_move rfl) ?_
    refine ed (pt b_p b_o) rfl rfl (dv_nilCheck rfl) ?_
    refine ed (pt b_p (b_o + 2)) rfl rfl (dv_fieldAddr rfl rfl) ?_
    refine ed (sv b.sa b.sn b.sc) rfl rfl (dv_load rfl (ld_pv (off := 2) (hbpv.keep hS.keep) rfl rfl rfl)) ?_
    refine ed (iv ((b.sn : Nat) : Int)) rfl rfl (dv_len rfl rfl rfl rfl rfl) ?_
    refine ed (iv 0) rfl rfl (dv_move rfl) ?_
    refine E_nil ?_
    refine th_norm ?_
    refine AWp_block ?_
    obtain ⟨I5, hI5⟩ : ∃ I : Nat → Env → AH → Prop, ∀ m_ e_ Hl, I m_ e_ Hl = (∃ (t2 : Bool) (i : Nat), m_ = b.sn - i ∧ AllE [(0, pt b_p b_o), (2, .bool t2), (4, pt b_p b_o), (5, pt b_p b_o), (6, pt b_p b_o), (7, yes), (8, no), (9, no), (10, pt b_p b_o), (11, pt b_p b_o), (12, pt b_p (b_o + 2)), (13, sv b.sa b.sn b.sc), (14, iv ((b.sn : Nat) : Int)), (15, no), (16, no), (17, no), (18, pt b_p b_o), (19, pt b_p b_o), (20, pt b_p (b_o + 5)), (21, sv b.wa b.wn b.wc), (22, iv ((b.wn : Nat) : Int)), (23, pt b_p b_o), (24, pt b_p b_o), (25, pt b_p b_o), (26, pt b_p b_o), (27, sv b.m.pa b.m.pn b.m.pc), (28, iv ((b.m.pn : Nat) : Int)), (29, no), (30, no), (31, pt b_p b_o), (32, pt b_p b_o), (33, pt b_p (b_o + 2)), (34, sv b.sa b.sn b.sc), (35, iv ((b.sn : Nat) : Int)), (36, iv ((i : Nat) : Int))] e_ ∧ SepL H0 [] Hl ∧ (i ≤ b.sn) ∧ (∀ t ∈ b.ss.take i, sprP b.m.ps.length t)) := ⟨_, fun _ _ _ => rfl⟩
    refine AWp_loop I5 (b.sn - (0)) ?_ ?_
    ·
     rw [hI5]
     refine ⟨false, 0, rfl, (all_c rfl (all_c rfl (all_c rfl (all_c rfl (all_c rfl (all_c rfl (all_c rfl (all_c rfl (all_c rfl (all_c rfl (all_c rfl (all_c rfl (all_c rfl (all_c rfl (all_c rfl (all_c rfl (all_c rfl (all_c rfl (all_c rfl (all_c rfl (all_c rfl (all_c rfl (all_c rfl (all_c rfl (all_c rfl (all_c rfl (all_c rfl (all_c rfl (all_c rfl (all_c rfl (all_c rfl (all_c rfl (all_c rfl (all_c rfl (all_c rfl all_n))))))))))))))))))))))))))))))))))), hS, ?_, ?_⟩
     · omega
     · simp
    ·
     intro m6 _ H hl7
     rw [hI5] at hl7
     obtain ⟨t2, i, hm8, he9, hS, hi, hall⟩ := hl7
     obtain ⟨e10, rfl⟩ := he9.ex
     refine AWp_seq ?_
     refine AWp_E rfl ?_
     rcases Decidable.em (((i : Nat) : Int) < ((b.sn : Nat) : Int)) with hc11 | hc11
     ·
      refine ed yes rfl rfl (dv_bin rfl rfl (bi_lss_t hc11)) ?_
      refine E_nil ?_
      refine th_norm ?_
      refine AWp_seq ?_
      refine AWp_cond (t := true) rfl (fun _ => ?_) nofun
      refine AWp_skip ?_
      refine th_norm ?_
      refine AWp_seq ?_
      refine AWp_block ?_
      refine AWp_seq ?_
      refine AWp_E rfl ?_
      refine ed (iv ((i : Nat) : Int)) rfl rfl (dv_move rfl) ?_
      refine ed (iv ((i : Nat) : Int)) rfl rfl (dv_assign rfl) ?_
      refine E_nil ?_
      refine th_norm ?_
      refine AWp_seq ?_
      have hR := hS.pushes
      have hKb := hS.keep
      have hB := fun Hc (hc : Keep _ Hc) => hR [] Hc (.base hc)
      refine AWp_D0 rfl (by decide +kernel) fun hM => ?_
      refine wd (pt b_p b_o) rfl rfl (fun _ hc => dv_move rfl) ?_
      refine wd (pt b_p b_o) rfl rfl (fun _ hc => dv_nilCheck rfl) ?_
      refine wd (pt b_p (b_o + 2)) rfl rfl (fun _ hc => dv_fieldAddr rfl rfl) ?_
      refine wd (sv b.sa b.sn b.sc) rfl rfl (fun _ hc => dv_load rfl (ld_pv (off := 2) (hbpv.keep (hKb.trans hc)) rfl rfl rfl)) ?_
      refine wd (iv ((i : Nat) : Int)) rfl rfl (fun _ hc => dv_move rfl) ?_
      obtain ⟨x12, hx12⟩ := get_el (xs := b.ss) (i := i) (by omega)
      refine wd (sp b.sa (i * 4)) rfl rfl (fun _ hc => dv_indexAddr (a := sv b.sa b.sn b.sc) (b := iv ((i : Nat) : Int)) rfl rfl (ix_sls (n := b.sn) (i := i) (hb_ss.keep (hKb.trans hc)) hx12 rfl rfl rfl (by omega))) ?_
      refine wd (pt b_p b_o) rfl rfl (fun _ hc => dv_move rfl) ?_
      refine wd (pt b_p b_o) rfl rfl (fun _ hc => dv_nilCheck rfl) ?_
      refine wd (pt b_p b_o) rfl rfl (fun _ hc => dv_fieldAddr rfl rfl) ?_
      refine wd (pt b_p b_o) rfl rfl (fun _ hc => dv_fieldAddr rfl rfl) ?_
      refine wd (sv b.m.pa b.m.pn b.m.pc) rfl rfl (fun _ hc => dv_load rfl (ld_pv (off := 0) (hbpv.keep (hKb.trans hc)) rfl rfl rfl)) ?_
      refine wd (iv ((b.m.pn : Nat) : Int)) rfl rfl (fun _ hc => dv_len rfl rfl rfl rfl rfl) ?_
      obtain ⟨p13, p13o, hp14, hv15⟩ := sls_pv (i := i) (sz := 4) (hb_ss.keep (hKb.trans hM.keep)) hx12 (fun _ => rfl)
      refine W_call (vs := [pt p13 p13o, iv ((b.m.pn : Nat) : Int)]) rfl rfl rfl rfl rfl rfl (by simp only [List.map_cons, List.map_nil, ← hp14]; rfl) (l03Spring_ok p13 p13o x12 ((b.m.pn : Nat) : Int) _ hv15 (by first | assumption | omega | (simp only [*]; assumption) | (simp_all; done))) ?_
      rintro _ H (⟨h16, rfl, hQ⟩ | ⟨h17, rfl, hQ⟩)
      ·
       have hM := hM.up hQ.keep
       refine ⟨hM.keep, ?_⟩
       refine wd no rfl rfl (fun _ hc => dv_un rfl rfl) ?_
       have hS := hR _ _ hM
       refine W_nil ?_
       refine th_norm ?_
       refine AWp_cond (t := false) rfl nofun (fun _ => ?_)
       refine AWp_skip ?_
       refine bl_norm ?_
       refine th_norm ?_
       refine AWp_E rfl ?_
       refine ed (iv ((i + 1 : Nat) : Int)) rfl rfl (dv_bin rfl rfl (bi_add (by omega))) ?_
       refine ed (iv ((i + 1 : Nat) : Int)) rfl rfl (dv_move rfl) ?_
       refine E_nil ?_
       refine loop_next (I := I5) (b.sn - (i + 1)) (by rw [hm8]; omega) ?_
       rw [hI5]
       refine ⟨t2, i + 1, rfl, (all_c rfl (all_c rfl (all_c rfl (all_c rfl (all_c rfl (all_c rfl (all_c rfl (all_c rfl (all_c rfl (all_c rfl (all_c rfl (all_c rfl (all_c rfl (all_c rfl (all_c rfl (all_c rfl (all_c rfl (all_c rfl (all_c rfl (all_c rfl (all_c rfl (all_c rfl (all_c rfl (all_c rfl (all_c rfl (all_c rfl (all_c rfl (all_c rfl (all_c rfl (all_c rfl (all_c rfl (all_c rfl (all_c rfl (all_c rfl (all_c rfl all_n))))))))))))))))))))))))))))))))))), hS, ?_, ?_⟩
       · omega
       · rw [hb_1_pn] at *; exact all_take hall hx12 h16
      ·
       have hM := hM.up hQ.keep
       refine ⟨hM.keep, ?_⟩
       refine wd yes rfl rfl (fun _ hc => dv_un rfl rfl) ?_
       have hS := hR _ _ hM
       refine W_nil ?_
       refine th_norm ?_
       refine AWp_cond (t := true) rfl (fun _ => ?_) nofun
       refine AWp_seq ?_
       refine AWp_E rfl ?_
       refine ed no rfl rfl (dv_assign rfl) ?_
       refine E_nil ?_
       refine th_norm ?_
       refine AWp_ret (bl_ret (th_ret (th_ret (bl_ret (th_ret (?_))))))
       refine ret_of ?_
       refine readsRes_of (rs := [.tmp 2]) (vs := [no]) rfl (re_cons (re_tmp rfl) (re_nil)) rfl ?_
       refine .inr (?_)
       refine ⟨?_, rfl, .base hS.keep⟩
       · intro hh
         have k1 : meshP b.m.ps.length (rxs b.m.ts) := hh.1
         have k2 : b.ss.length ≤ 200 := hh.2.1
         have k3 : b.ws.length = b.m.ps.length := hh.2.2.1
         have k4 : sprP b.m.ps.length x12 := hh.2.2.2 _ (List.mem_of_getElem? hx12)
         rw [hb_1_pn] at k4
         exact h17 k4
     ·
      refine ed no rfl rfl (dv_bin rfl rfl (bi_lss_f hc11)) ?_
      refine E_nil ?_
      refine th_norm ?_
      refine AWp_seq ?_
      refine AWp_cond (t := false) rfl nofun (fun _ => ?_)
      refine AWp_exit (th_exit (th_exit (bl_exit (?_))))
      refine th_norm ?_
      refine AWp_seq ?_
      refine AWp_E rfl ?_
      refine ed yes rfl rfl (dv_assign rfl) ?_
      refine E_nil ?_
      refine th_norm ?_
      refine AWp_ret (?_)
      refine ret_of ?_
      refine readsRes_of (rs := [.tmp 2]) (vs := [yes]) rfl (re_cons (re_tmp rfl) (re_nil)) rfl ?_
      refine .inl ?_
      refine ⟨?_, rfl, .base hS.keep⟩
      · refine ⟨h1, ?_, ?_, fun t ht => hall t ?_⟩
        · show b.ss.length ≤ 200; omega
        · show b.ws.length = b.m.ps.length; omega
        · rw [List.take_of_length_le (by omega)]; exact ht
 ·
  have hM := hM.up hQ.keep
  refine ⟨hM.keep, ?_⟩
  refine wd yes rfl rfl (fun _ hc => dv_un rfl rfl) ?_
  refine wd yes rfl rfl (fun _ hc => dv_move rfl) ?_
  refine W_skip rfl rfl ?_
  refine W_skip rfl rfl ?_
  refine W_skip rfl rfl ?_
  refine W_skip rfl rfl ?_
  refine W_skip rfl rfl ?_
  refine W_skip rfl rfl ?_
  refine wd yes rfl rfl (fun _ hc => dv_pick (t := true) rfl rfl) ?_
  refine wd yes rfl rfl (fun _ hc => dv_move rfl) ?_
  refine W_skip rfl rfl ?_
  refine W_skip rfl rfl ?_
  refine W_skip rfl rfl ?_
  refine W_skip rfl rfl ?_
  refine W_skip rfl rfl ?_
  refine W_skip rfl rfl ?_
  refine W_skip rfl rfl ?_
  refine W_skip rfl rfl ?_
  refine W_skip rfl rfl ?_
  refine W_skip rfl rfl ?_
  refine W_skip rfl rfl ?_
  refine W_skip rfl rfl ?_
  refine wd yes rfl rfl (fun _ hc => dv_pick (t := true) rfl rfl) ?_
  have hS := hR _ _ hM
  refine W_nil ?_
  refine th_norm ?_
  refine AWp_cond (t := true) rfl (fun _ => ?_) nofun
  refine AWp_seq ?_
  refine AWp_E rfl ?_
  refine ed no rfl rfl (dv_assign rfl) ?_
  refine E_nil ?_
  refine th_norm ?_
  refine AWp_ret (th_ret (?_))
  refine ret_of ?_
  refine readsRes_of (rs := [.tmp 2]) (vs := [no]) rfl (re_cons (re_tmp rfl) (re_nil)) rfl ?_
  refine .inr (?_)
  refine ⟨?_, rfl, .base hS.keep⟩
  · intro hh
    have k1 : meshP b.m.ps.length (rxs b.m.ts) := hh.1
    have k2 : b.ss.length ≤ 200 := hh.2.1
    have k3 : b.ws.length = b.m.ps.length := hh.2.2.1
    exact absurd k1 h2
theorem ValidBody_ok (b : LB) (H : AH) (hb : b.ok H) : ACalls Tryz.prog 122 [bva b] H
  (fun r H' => (Bod.ok b.d ∧ r = yes ∧ SepL H [] H') ∨ (¬(Bod.ok b.d) ∧ r = no ∧ SepL H [] H')) := by
 refine ACalls_of Tryz.func122 rfl (Nat.le_of_ble_eq_true rfl) ?_
 obtain ⟨H0, hH0⟩ : ∃ H0, H0 = H := ⟨_, rfl⟩
 have hS : SepL H0 [] H := hH0 ▸ SepL.refl H
 subst hH0
 obtain ⟨⟨hb_1_ps, hb_1_pn, hb_1_pb⟩, hb_1_ts, hb_1_tn, hb_1_tb⟩ := id hb.1
 obtain ⟨⟨hb_ss, hb_sn, hb_sb⟩, hb_ws, hb_wn, hb_wb⟩ := hb.2
 refine AWp_seq ?_
 refine AWp_E rfl ?_
 refine S_box (l := [sv b.m.pa b.m.pn b.m.pc, sv b.m.ta b.m.tn b.m.tc, sv b.sa b.sn b.sc, fl b.film, fl b.bend, sv b.wa b.wn b.wc, fl b.fall.x, fl b.fall.y, fl b.fall.z]) hS rfl rfl rfl rfl rfl fun b1 H hS => ?_
 refine ed no rfl rfl (dv_assign rfl) ?_
 refine E_nil ?_
 refine th_norm ?_
 refine AWp_seq ?_
 refine AWp_E rfl ?_
 refine ed (pt b1 0) rfl rfl (dv_fieldAddr rfl rfl) ?_
 refine ed (pt b1 0) rfl rfl (dv_fieldAddr rfl rfl) ?_
 refine ed (sv b.m.pa b.m.pn b.m.pc) rfl rfl (dv_load rfl (ld_box (hS.box 0 rfl) rfl rfl rfl)) ?_
 refine ed (iv ((b.m.pn : Nat) : Int)) rfl rfl (dv_len rfl rfl rfl rfl rfl) ?_
 refine ed (iv ((b.m.pn : Nat) : Int)) rfl rfl (dv_assign rfl) ?_
 refine E_nil ?_
 refine th_norm ?_
 refine AWp_seq ?_
 refine AWp_seq ?_
 refine AWp_E rfl ?_
 refine ed (pt b1 0) rfl rfl (dv_fieldAddr rfl rfl) ?_
 refine ed (mva b.m) rfl rfl (dv_load rfl (ld_boxA (n := 2) (hS.box 0 rfl) rfl rfl (Nat.le_of_ble_eq_true rfl) rfl)) ?_
 refine E_call (vs := [mva b.m]) rfl rfl rfl rfl rfl rfl rfl (ValidMesh_ok b.m _ (hb.1.keep hS.keep)) ?_
 rintro _ H (⟨h2, rfl, hQ⟩ | ⟨h3, rfl, hQ⟩)
 ·
  have hS := hS.up hQ.keep
  refine ed no rfl rfl (dv_un rfl rfl) ?_
  refine ed no rfl rfl (dv_move rfl) ?_
  refine ed (pt b1 2) rfl rfl (dv_fieldAddr rfl rfl) ?_
  refine ed (sv b.sa b.sn b.sc) rfl rfl (dv_load rfl (ld_box (hS.box 0 rfl) rfl rfl rfl)) ?_
  refine ed (iv ((b.sn : Nat) : Int)) rfl rfl (dv_len rfl rfl rfl rfl rfl) ?_
  rcases Decidable.em ((200 : Int) < ((b.sn : Nat) : Int)) with hc4 | hc4
  ·
   refine ed yes rfl rfl (dv_bin rfl rfl (bi_gtr_t hc4)) ?_
   refine ed yes rfl rfl (dv_pick (t := false) rfl rfl) ?_
   refine ed yes rfl rfl (dv_move rfl) ?_
   refine E_skip rfl rfl ?_
   refine E_skip rfl rfl ?_
   refine E_skip rfl rfl ?_
   refine E_skip rfl rfl ?_
   refine E_skip rfl rfl ?_
   refine ed yes rfl rfl (dv_pick (t := true) rfl rfl) ?_
   refine E_nil ?_
   refine th_norm ?_
   refine AWp_cond (t := true) rfl (fun _ => ?_) nofun
   refine AWp_seq ?_
   refine AWp_E rfl ?_
   refine ed no rfl rfl (dv_assign rfl) ?_
   refine E_nil ?_
   refine th_norm ?_
   refine AWp_ret (th_ret (?_))
   refine ret_of ?_
   refine readsRes_of (rs := [.tmp 2]) (vs := [no]) rfl (re_cons (re_tmp rfl) (re_nil)) rfl ?_
   refine .inr (?_)
   refine ⟨?_, rfl, .base hS.keep⟩
   · intro hh
     have k1 : meshP b.m.ps.length (rxs b.m.ts) := hh.1
     have k2 : b.ss.length ≤ 200 := hh.2.1
     have k3 : b.ws.length = b.m.ps.length := hh.2.2.1
     omega
  ·
   refine ed no rfl rfl (dv_bin rfl rfl (bi_gtr_f hc4)) ?_
   refine ed no rfl rfl (dv_pick (t := false) rfl rfl) ?_
   refine ed no rfl rfl (dv_move rfl) ?_
   refine ed (pt b1 5) rfl rfl (dv_fieldAddr rfl rfl) ?_
   refine ed (sv b.wa b.wn b.wc) rfl rfl (dv_load rfl (ld_box (hS.box 0 rfl) rfl rfl rfl)) ?_
   refine ed (iv ((b.wn : Nat) : Int)) rfl rfl (dv_len rfl rfl rfl rfl rfl) ?_
   refine ed (iv ((b.m.pn : Nat) : Int)) rfl rfl (dv_move rfl) ?_
   rcases Decidable.em (((b.wn : Nat) : Int) ≠ ((b.m.pn : Nat) : Int)) with hc5 | hc5
   ·
    refine ed yes rfl rfl (dv_bin rfl rfl (bi_neq_t hc5)) ?_
    refine ed yes rfl rfl (dv_pick (t := false) rfl rfl) ?_
    refine E_nil ?_
    refine th_norm ?_
    refine AWp_cond (t := true) rfl (fun _ => ?_) nofun
    refine AWp_seq ?_
    refine AWp_E rfl ?_
    refine ed no rfl rfl (dv_assign rfl) ?_
    refine E_nil ?_
    refine th_norm ?_
    refine AWp_ret (th_ret (?_))
    refine ret_of ?_
    refine readsRes_of (rs := [.tmp 2]) (vs := [no]) rfl (re_cons (re_tmp rfl) (re_nil)) rfl ?_
    refine .inr (?_)
    refine ⟨?_, rfl, .base hS.keep⟩
    · intro hh
      have k1 : meshP b.m.ps.length (rxs b.m.ts) := hh.1
      have k2 : b.ss.length ≤ 200 := hh.2.1
      have k3 : b.ws.length = b.m.ps.length := hh.2.2.1
      omega
   ·
    refine ed no rfl rfl (dv_bin rfl rfl (bi_neq_f hc5)) ?_
    refine ed no rfl rfl (dv_pick (t := false) rfl rfl) ?_
    refine E_nil ?_
    refine th_norm ?_
    refine AWp_cond (t := false) rfl nofun (fun _ => ?_)
    refine AWp_skip ?_
    refine th_norm ?_
    refine AWp_seq ?_
    refine AWp_seq ?_
    refine AWp_E rfl ?_
    refine ed (pt b1 2) rfl rfl (dv_fieldAddr rfl rfl) ?_
    refine ed (sv b.sa b.sn b.sc) rfl rfl (dv_load rfl (ld_box (hS.box 0 rfl) rfl rfl rfl)) ?_
    refine ed (iv ((b.sn : Nat) : Int)) rfl rfl (dv_len rfl rfl rfl rfl rfl) ?_
    refine ed (iv 0) rfl rfl (dv_move rfl) ?_
    refine E_nil ?_
    refine th_norm ?_
    refine AWp_block ?_
    obtain ⟨I6, hI6⟩ : ∃ I : Nat → Env → AH → Prop, ∀ m_ e_ Hl, I m_ e_ Hl = (∃ (t2 : Bool) (i : Nat), m_ = b.sn - i ∧ AllE [(0, bva b), (1, pt b1 0), (2, .bool t2), (3, iv ((b.m.pn : Nat) : Int)), (6, pt b1 0), (7, pt b1 0), (8, sv b.m.pa b.m.pn b.m.pc), (9, iv ((b.m.pn : Nat) : Int)), (10, pt b1 0), (11, mva b.m), (12, yes), (13, no), (14, no), (15, pt b1 2), (16, sv b.sa b.sn b.sc), (17, iv ((b.sn : Nat) : Int)), (18, no), (19, no), (20, no), (21, pt b1 5), (22, sv b.wa b.wn b.wc), (23, iv ((b.wn : Nat) : Int)), (24, iv ((b.m.pn : Nat) : Int)), (25, no), (26, no), (27, pt b1 2), (28, sv b.sa b.sn b.sc), (29, iv ((b.sn : Nat) : Int)), (30, iv ((i : Nat) : Int))] e_ ∧ SepL H0 [box b1 [sv b.m.pa b.m.pn b.m.pc, sv b.m.ta b.m.tn b.m.tc, sv b.sa b.sn b.sc, fl b.film, fl b.bend, sv b.wa b.wn b.wc, fl b.fall.x, fl b.fall.y, fl b.fall.z] 43] Hl ∧ (i ≤ b.sn) ∧ (∀ t ∈ b.ss.take i, sprP b.m.ps.length t)) := ⟨_, fun _ _ _ => rfl⟩
    refine AWp_loop I6 (b.sn - (0)) ?_ ?_
    ·
     rw [hI6]
     refine ⟨false, 0, rfl, (all_c rfl (all_c rfl (all_c rfl (all_c rfl (all_c rfl (all_c rfl (all_c rfl (all_c rfl (all_c rfl (all_c rfl (all_c rfl (all_c rfl (all_c rfl (all_c rfl (all_c rfl (all_c rfl (all_c rfl (all_c rfl (all_c rfl (all_c rfl (all_c rfl (all_c rfl (all_c rfl (all_c rfl (all_c rfl (all_c rfl (all_c rfl (all_c rfl (all_c rfl all_n))))))))))))))))))))))))))))), hS, ?_, ?_⟩
     · omega
     · simp
    ·
     intro m7 _ H hl8
     rw [hI6] at hl8
     obtain ⟨t2, i, hm9, he10, hS, hi, hall⟩ := hl8
     obtain ⟨e11, rfl⟩ := he10.ex
     refine AWp_seq ?_
     refine AWp_E rfl ?_
     rcases Decidable.em (((i : Nat) : Int) < ((b.sn : Nat) : Int)) with hc12 | hc12
     ·
      refine ed yes rfl rfl (dv_bin rfl rfl (bi_lss_t hc12)) ?_
      refine E_nil ?_
      refine th_norm ?_
      refine AWp_seq ?_
      refine AWp_cond (t := true) rfl (fun _ => ?_) nofun
      refine AWp_skip ?_
      refine th_norm ?_
      refine AWp_seq ?_
      refine AWp_block ?_
      refine AWp_seq ?_
      refine AWp_E rfl ?_
      obtain ⟨x13, hx13⟩ := get_el (xs := b.ss) (i := i) (by omega)
      refine ed (sp b.sa (i * 4)) rfl rfl (dv_indexAddr (a := sv b.sa b.sn b.sc) (b := iv ((i : Nat) : Int)) rfl rfl (ix_sls (n := b.sn) (i := i) (hb_ss.keep hS.keep) hx13 rfl rfl rfl (by omega))) ?_
      refine ed (.agg #[iv x13.A, iv x13.B, fl x13.Long, fl x13.Stiff]) rfl rfl (dv_load rfl (ld_slsA (sz := 4) (m := 4) (ys := [iv x13.A, iv x13.B, fl x13.Long, fl x13.Stiff]) (off := 0) (hb_ss.keep hS.keep) hx13 (fun _ => rfl) rfl rfl (Nat.le_of_ble_eq_true rfl) rfl)) ?_
      refine S_box (l := [iv 0, iv 0, fl 0, fl 0]) hS rfl rfl rfl rfl rfl fun b14 H hS => ?_
      refine S_store (i := 1) (yv := .agg #[iv x13.A, iv x13.B, fl x13.Long, fl x13.Stiff]) (l' := [iv x13.A, iv x13.B, fl x13.Long, fl x13.Stiff]) hS rfl rfl rfl rfl rfl rfl rfl rfl rfl rfl rfl rfl fun H hS => ?_
      refine E_nil ?_
      refine th_norm ?_
      refine AWp_seq ?_
      refine AWp_E rfl ?_
      refine ed (pt b14 0) rfl rfl (dv_fieldAddr rfl rfl) ?_
      refine ed (iv x13.A) rfl rfl (dv_load rfl (ld_box (hS.box 1 rfl) rfl rfl rfl)) ?_
      refine ed (iv ((b.m.pn : Nat) : Int)) rfl rfl (dv_move rfl) ?_
      refine ed (iv (((b.m.pn : Nat) : Int) - 1)) rfl rfl (dv_bin rfl rfl (bi_sub (by omega))) ?_
      refine E_call (vs := [iv x13.A, iv 0, iv (((b.m.pn : Nat) : Int) - 1)]) rfl rfl rfl rfl rfl rfl rfl (within_ok x13.A 0 (((b.m.pn : Nat) : Int) - 1) _) ?_
      rintro _ H (⟨h15, rfl, hQ⟩ | ⟨h16, rfl, hQ⟩)
      ·
       have hS := hS.up hQ.keep
       refine ed no rfl rfl (dv_un rfl rfl) ?_
       refine ed no rfl rfl (dv_move rfl) ?_
       refine ed (pt b14 1) rfl rfl (dv_fieldAddr rfl rfl) ?_
       refine ed (iv x13.B) rfl rfl (dv_load rfl (ld_box (hS.box 1 rfl) rfl rfl rfl)) ?_
       refine ed (iv ((b.m.pn : Nat) : Int)) rfl rfl (dv_move rfl) ?_
       refine ed (iv (((b.m.pn : Nat) : Int) - 1)) rfl rfl (dv_bin rfl rfl (bi_sub (by omega))) ?_
       refine E_call (vs := [iv x13.B, iv 0, iv (((b.m.pn : Nat) : Int) - 1)]) rfl rfl rfl rfl rfl rfl rfl (within_ok x13.B 0 (((b.m.pn : Nat) : Int) - 1) _) ?_
       rintro _ H (⟨h17, rfl, hQ⟩ | ⟨h18, rfl, hQ⟩)
       ·
        have hS := hS.up hQ.keep
        refine ed no rfl rfl (dv_un rfl rfl) ?_
        refine ed no rfl rfl (dv_pick (t := false) rfl rfl) ?_
        refine ed no rfl rfl (dv_move rfl) ?_
        refine ed (pt b14 0) rfl rfl (dv_fieldAddr rfl rfl) ?_
        refine ed (iv x13.A) rfl rfl (dv_load rfl (ld_box (hS.box 1 rfl) rfl rfl rfl)) ?_
        refine ed (pt b14 1) rfl rfl (dv_fieldAddr rfl rfl) ?_
        refine ed (iv x13.B) rfl rfl (dv_load rfl (ld_box (hS.box 1 rfl) rfl rfl rfl)) ?_
        rcases Decidable.em ((x13.A : Int) = x13.B) with hc19 | hc19
        ·
         refine ed yes rfl rfl (dv_bin rfl rfl (bi_eql_t hc19)) ?_
         refine ed yes rfl rfl (dv_pick (t := false) rfl rfl) ?_
         refine ed yes rfl rfl (dv_move rfl) ?_
         refine E_skip rfl rfl ?_
         refine E_skip rfl rfl ?_
         refine E_skip rfl rfl ?_
         refine E_skip rfl rfl ?_
         refine ed yes rfl rfl (dv_pick (t := true) rfl rfl) ?_
         refine E_nil ?_
         refine th_norm ?_
         refine AWp_cond (t := true) rfl (fun _ => ?_) nofun
         refine AWp_seq ?_
         refine AWp_E rfl ?_
         refine ed no rfl rfl (dv_assign rfl) ?_
         refine E_nil ?_
         refine th_norm ?_
         refine AWp_ret (bl_ret (th_ret (th_ret (bl_ret (th_ret (?_))))))
         refine ret_of ?_
         refine readsRes_of (rs := [.tmp 2]) (vs := [no]) rfl (re_cons (re_tmp rfl) (re_nil)) rfl ?_
         refine .inr (?_)
         refine ⟨?_, rfl, .base hS.keep⟩
         · intro hh
           have k1 : meshP b.m.ps.length (rxs b.m.ts) := hh.1
           have k2 : b.ss.length ≤ 200 := hh.2.1
           have k3 : b.ws.length = b.m.ps.length := hh.2.2.1
           have k4 : sprP b.m.ps.length x13 := hh.2.2.2 _ (List.mem_of_getElem? hx13)
           unfold sprP inP at k4
           omega
        ·
         refine ed no rfl rfl (dv_bin rfl rfl (bi_eql_f hc19)) ?_
         refine ed no rfl rfl (dv_pick (t := false) rfl rfl) ?_
         refine ed no rfl rfl (dv_move rfl) ?_
         refine ed (pt b14 2) rfl rfl (dv_fieldAddr rfl rfl) ?_
         refine ed (fl x13.Long) rfl rfl (dv_load rfl (ld_box (hS.box 1 rfl) rfl rfl rfl)) ?_
         rcases Bool.eq_false_or_eq_true (fge .f32 x13.Long 0) with hc20 | hc20
         ·
          refine ed yes rfl rfl (dv_bin rfl rfl (isB bf_geq hc20)) ?_
          refine ed no rfl rfl (dv_un rfl rfl) ?_
          refine ed no rfl rfl (dv_pick (t := false) rfl rfl) ?_
          refine E_nil ?_
          refine th_norm ?_
          refine AWp_cond (t := false) rfl nofun (fun _ => ?_)
          refine AWp_skip ?_
          refine bl_norm ?_
          refine th_norm ?_
          refine AWp_E rfl ?_
          refine ed (iv ((i + 1 : Nat) : Int)) rfl rfl (dv_bin rfl rfl (bi_add (by omega))) ?_
          refine ed (iv ((i + 1 : Nat) : Int)) rfl rfl (dv_move rfl) ?_
          refine E_nil ?_
          refine loop_next (I := I6) (b.sn - (i + 1)) (by rw [hm9]; omega) ?_
          rw [hI6]
          refine ⟨t2, i + 1, rfl, (all_c rfl (all_c rfl (all_c rfl (all_c rfl (all_c rfl (all_c rfl (all_c rfl (all_c rfl (all_c rfl (all_c rfl (all_c rfl (all_c rfl (all_c rfl (all_c rfl (all_c rfl (all_c rfl (all_c rfl (all_c rfl (all_c rfl (all_c rfl (all_c rfl (all_c rfl (all_c rfl (all_c rfl (all_c rfl (all_c rfl (all_c rfl (all_c rfl (all_c rfl all_n))))))))))))))))))))))))))))), (hS.pick [0] rfl), ?_, ?_⟩
          · omega
          · exact all_take hall hx13 ⟨by unfold inP; omega, by unfold inP; omega, by omega, by assumption⟩
         ·
          refine ed no rfl rfl (dv_bin rfl rfl (isB bf_geq hc20)) ?_
          refine ed yes rfl rfl (dv_un rfl rfl) ?_
          refine ed yes rfl rfl (dv_pick (t := false) rfl rfl) ?_
          refine E_nil ?_
          refine th_norm ?_
          refine AWp_cond (t := true) rfl (fun _ => ?_) nofun
          refine AWp_seq ?_
          refine AWp_E rfl ?_
          refine ed no rfl rfl (dv_assign rfl) ?_
          refine E_nil ?_
          refine th_norm ?_
          refine AWp_ret (bl_ret (th_ret (th_ret (bl_ret (th_ret (?_))))))
          refine ret_of ?_
          refine readsRes_of (rs := [.tmp 2]) (vs := [no]) rfl (re_cons (re_tmp rfl) (re_nil)) rfl ?_
          refine .inr (?_)
          refine ⟨?_, rfl, .base hS.keep⟩
          · intro hh
            have k1 : meshP b.m.ps.length (rxs b.m.ts) := hh.1
            have k2 : b.ss.length ≤ 200 := hh.2.1
            have k3 : b.ws.length = b.m.ps.length := hh.2.2.1
            have k4 : sprP b.m.ps.length x13 := hh.2.2.2 _ (List.mem_of_getElem? hx13)
            have k5 := k4.2.2.2
            rw [hc20] at k5; cases k5
       ·
        have hS := hS.up hQ.keep
        refine ed yes rfl rfl (dv_un rfl rfl) ?_
        refine ed yes rfl rfl (dv_pick (t := false) rfl rfl) ?_
        refine ed yes rfl rfl (dv_move rfl) ?_
        refine E_skip rfl rfl ?_
        refine E_skip rfl rfl ?_
        refine E_skip rfl rfl ?_
        refine E_skip rfl rfl ?_
        refine E_skip rfl rfl ?_
        refine ed yes rfl rfl (dv_pick (t := true) rfl rfl) ?_
        refine ed yes rfl rfl (dv_move rfl) ?_
        refine E_skip rfl rfl ?_
        refine E_skip rfl rfl ?_
        refine E_skip rfl rfl ?_
        refine E_skip rfl rfl ?_
        refine ed yes rfl rfl (dv_pick (t := true) rfl rfl) ?_
        refine E_nil ?_
        refine th_norm ?_
        refine AWp_cond (t := true) rfl (fun _ => ?_) nofun
        refine AWp_seq ?_
        refine AWp_E rfl ?_
        refine ed no rfl rfl (dv_assign rfl) ?_
        refine E_nil ?_
        refine th_norm ?_
        refine AWp_ret (bl_ret (th_ret (th_ret (bl_ret (th_ret (?_))))))
        refine ret_of ?_
        refine readsRes_of (rs := [.tmp 2]) (vs := [no]) rfl (re_cons (re_tmp rfl) (re_nil)) rfl ?_
        refine .inr (?_)
        refine ⟨?_, rfl, .base hS.keep⟩
        · intro hh
          have k1 : meshP b.m.ps.length (rxs b.m.ts) := hh.1
          have k2 : b.ss.length ≤ 200 := hh.2.1
          have k3 : b.ws.length = b.m.ps.length := hh.2.2.1
          have k4 : sprP b.m.ps.length x13 := hh.2.2.2 _ (List.mem_of_getElem? hx13)
          unfold sprP inP at k4
          omega
      ·
       have hS := hS.up hQ.keep
       refine ed yes rfl rfl (dv_un rfl rfl) ?_
       refine ed yes rfl rfl (dv_move rfl) ?_
       refine E_skip rfl rfl ?_
       refine E_skip rfl rfl ?_
       refine E_skip rfl rfl ?_
       refine E_skip rfl rfl ?_
       refine E_skip rfl rfl ?_
       refine E_skip rfl rfl ?_
       refine ed yes rfl rfl (dv_pick (t := true) rfl rfl) ?_
       refine ed yes rfl rfl (dv_move rfl) ?_
       refine E_skip rfl rfl ?_
       refine E_skip rfl rfl ?_
       refine E_skip rfl rfl ?_
       refine E_skip rfl rfl ?_
       refine E_skip rfl rfl ?_
       refine ed yes rfl rfl (dv_pick (t := true) rfl rfl) ?_
       refine ed yes rfl rfl (dv_move rfl) ?_
       refine E_skip rfl rfl ?_
       refine E_skip rfl rfl ?_
       refine E_skip rfl rfl ?_
       refine E_skip rfl rfl ?_
       refine ed yes rfl rfl (dv_pick (t := true) rfl rfl) ?_
       refine E_nil ?_
       refine th_norm ?_
       refine AWp_cond (t := true) rfl (fun _ => ?_) nofun
       refine AWp_seq ?_
       refine AWp_E rfl ?_
       refine ed no rfl rfl (dv_assign rfl) ?_
       refine E_nil ?_
       refine th_norm ?_
       refine AWp_ret (bl_ret (th_ret (th_ret (bl_ret (th_ret (?_))))))
       refine ret_of ?_
       refine readsRes_of (rs := [.tmp 2]) (vs := [no]) rfl (re_cons (re_tmp rfl) (re_nil)) rfl ?_
       refine .inr (?_)
       refine ⟨?_, rfl, .base hS.keep⟩
       · intro hh
         have k1 : meshP b.m.ps.length (rxs b.m.ts) := hh.1
         have k2 : b.ss.length ≤ 200 := hh.2.1
         have k3 : b.ws.length = b.m.ps.length := hh.2.2.1
         have k4 : sprP b.m.ps.length x13 := hh.2.2.2 _ (List.mem_of_getElem? hx13)
         unfold sprP inP at k4
         omega
     ·
      refine ed no rfl rfl (dv_bin rfl rfl (bi_lss_f hc12)) ?_
      refine E_nil ?_
      refine th_norm ?_
      refine AWp_seq ?_
      refine AWp_cond (t := false) rfl nofun (fun _ => ?_)
      refine AWp_exit (th_exit (th_exit (bl_exit (?_))))
      refine th_norm ?_
      refine AWp_seq ?_
      refine AWp_E rfl ?_
      refine ed yes rfl rfl (dv_assign rfl) ?_
      refine E_nil ?_
      refine th_norm ?_
      refine AWp_ret (?_)
      refine ret_of ?_
      refine readsRes_of (rs := [.tmp 2]) (vs := [yes]) rfl (re_cons (re_tmp rfl) (re_nil)) rfl ?_
      refine .inl ?_
      refine ⟨?_, rfl, .base hS.keep⟩
      · refine ⟨h2, ?_, ?_, fun t ht => hall t ?_⟩
        · show b.ss.length ≤ 200; omega
        · show b.ws.length = b.m.ps.length; omega
        · rw [List.take_of_length_le (by omega)]; exact ht
 ·
  have hS := hS.up hQ.keep
  refine ed yes rfl rfl (dv_un rfl rfl) ?_
  refine ed yes rfl rfl (dv_move rfl) ?_
  refine E_skip rfl rfl ?_
  refine E_skip rfl rfl ?_
  refine E_skip rfl rfl ?_
  refine E_skip rfl rfl ?_
  refine ed yes rfl rfl (dv_pick (t := true) rfl rfl) ?_
  refine ed yes rfl rfl (dv_move rfl) ?_
  refine E_skip rfl rfl ?_
  refine E_skip rfl rfl ?_
  refine E_skip rfl rfl ?_
  refine E_skip rfl rfl ?_
  refine E_skip rfl rfl ?_
  refine ed yes rfl rfl (dv_pick (t := true) rfl rfl) ?_
  refine E_nil ?_
  refine th_norm ?_
  refine AWp_cond (t := true) rfl (fun _ => ?_) nofun
  refine AWp_seq ?_
  refine AWp_E rfl ?_
  refine ed no rfl rfl (dv_assign rfl) ?_
  refine E_nil ?_
  refine th_norm ?_
  refine AWp_ret (th_ret (?_))
  refine ret_of ?_
  refine readsRes_of (rs := [.tmp 2]) (vs := [no]) rfl (re_cons (re_tmp rfl) (re_nil)) rfl ?_
  refine .inr (?_)
  refine ⟨?_, rfl, .base hS.keep⟩
  · intro hh
    have k1 : meshP b.m.ps.length (rxs b.m.ts) := hh.1
    have k2 : b.ss.length ≤ 200 := hh.2.1
    have k3 : b.ws.length = b.m.ps.length := hh.2.2.1
    exact absurd k1 h3
end Go.Ab

set_option maxRecDepth 100000
set_option maxHeartbeats 4000000
namespace Go.Ab
open Go.Proofs
theorem isNaNI_ok (x : Int) (H : AH)  : ACalls Tryz.prog 173 [iv x] H
  (fun r H' => r = no ∧ SepL H [] H') := by
 refine ACalls_of Tryz.func173 rfl (Nat.le_of_ble_eq_true rfl) ?_
 obtain ⟨H0, hH0⟩ : ∃ H0, H0 = H := ⟨_, rfl⟩
 have hS : SepL H0 [] H := hH0 ▸ SepL.refl H
 subst hH0
 refine AWp_seq ?_
 refine AWp_E rfl ?_
 refine ed no rfl rfl (dv_assign rfl) ?_
 refine E_nil ?_
 refine th_norm ?_
 refine AWp_seq ?_
 refine AWp_E rfl ?_
 refine ed (iv x) rfl rfl (dv_move rfl) ?_
 refine ed (iv x) rfl rfl (dv_move rfl) ?_
 rcases Decidable.em ((x : Int) ≠ x) with hc1 | hc1
 ·
  refine ed yes rfl rfl (dv_bin rfl rfl (bi_neq_t hc1)) ?_
  refine ed yes rfl rfl (dv_assign rfl) ?_
  refine E_nil ?_
  refine th_norm ?_
  refine AWp_ret (?_)
  refine ret_of ?_
  refine readsRes_of (rs := [.tmp 2]) (vs := [yes]) rfl (re_cons (re_tmp rfl) (re_nil)) rfl ?_
  exfalso; omega
 ·
  refine ed no rfl rfl (dv_bin rfl rfl (bi_neq_f hc1)) ?_
  refine ed no rfl rfl (dv_assign rfl) ?_
  refine E_nil ?_
  refine th_norm ?_
  refine AWp_ret (?_)
  refine ret_of ?_
  refine readsRes_of (rs := [.tmp 2]) (vs := [no]) rfl (re_cons (re_tmp rfl) (re_nil)) rfl ?_
  refine ⟨rfl, .base hS.keep⟩
theorem CompareI_ok (x : Int) (y : Int) (H : AH)  : ACalls Tryz.prog 167 [iv x, iv y] H
  (fun r H' => ∃ (v_ : Int), icmp x y = v_ ∧ r = iv v_ ∧ SepL H [] H') := by
 refine ACalls_of Tryz.func167 rfl (Nat.le_of_ble_eq_true rfl) ?_
 obtain ⟨H0, hH0⟩ : ∃ H0, H0 = H := ⟨_, rfl⟩
 have hS : SepL H0 [] H := hH0 ▸ SepL.refl H
 subst hH0
 refine AWp_seq ?_
 refine AWp_E rfl ?_
 refine ed (iv 0) rfl rfl (dv_assign rfl) ?_
 refine E_nil ?_
 refine th_norm ?_
 refine AWp_seq ?_
 refine AWp_E rfl ?_
 refine ed (iv x) rfl rfl (dv_move rfl) ?_
 refine E_call (vs := [iv x]) rfl rfl rfl rfl rfl rfl rfl (isNaNI_ok x _) ?_
 rintro _ H ⟨rfl, hQ⟩
 have hS := hS.up hQ.keep
 refine ed no rfl rfl (dv_assign rfl) ?_
 refine E_nil ?_
 refine th_norm ?_
 refine AWp_seq ?_
 refine AWp_E rfl ?_
 refine ed (iv y) rfl rfl (dv_move rfl) ?_
 refine E_call (vs := [iv y]) rfl rfl rfl rfl rfl rfl rfl (isNaNI_ok y _) ?_
 rintro _ H ⟨rfl, hQ⟩
 have hS := hS.up hQ.keep
 refine ed no rfl rfl (dv_assign rfl) ?_
 refine E_nil ?_
 refine th_norm ?_
 refine AWp_seq ?_
 refine AWp_seq ?_
 refine AWp_E rfl ?_
 refine ed no rfl rfl (dv_move rfl) ?_
 refine E_nil ?_
 refine th_norm ?_
 refine AWp_cond (t := false) rfl nofun (fun _ => ?_)
 refine AWp_skip ?_
 refine th_norm ?_
 refine AWp_seq ?_
 refine AWp_seq ?_
 refine AWp_E rfl ?_
 refine ed no rfl rfl (dv_move rfl) ?_
 refine E_nil ?_
 refine th_norm ?_
 refine AWp_cond (t := false) rfl nofun (fun _ => ?_)
 refine AWp_skip ?_
 refine th_norm ?_
 refine AWp_seq ?_
 refine AWp_seq ?_
 refine AWp_E rfl ?_
 refine ed (iv x) rfl rfl (dv_move rfl) ?_
 refine ed (iv y) rfl rfl (dv_move rfl) ?_
 rcases Decidable.em ((x : Int) < y) with hc1 | hc1
 ·
  refine ed yes rfl rfl (dv_bin rfl rfl (bi_lss_t hc1)) ?_
  refine E_nil ?_
  refine th_norm ?_
  refine AWp_cond (t := true) rfl (fun _ => ?_) nofun
  refine AWp_seq ?_
  refine AWp_E rfl ?_
  refine ed (iv (-1)) rfl rfl (dv_assign rfl) ?_
  refine E_nil ?_
  refine th_norm ?_
  refine AWp_ret (th_ret (?_))
  refine ret_of ?_
  refine readsRes_of (rs := [.tmp 4]) (vs := [iv (-1)]) rfl (re_cons (re_tmp rfl) (re_nil)) rfl ?_
  refine ⟨(-1), ?_, rfl, .base hS.keep⟩
  · unfold icmp
    split <;> (try split) <;> omega
 ·
  refine ed no rfl rfl (dv_bin rfl rfl (bi_lss_f hc1)) ?_
  refine E_nil ?_
  refine th_norm ?_
  refine AWp_cond (t := false) rfl nofun (fun _ => ?_)
  refine AWp_skip ?_
  refine th_norm ?_
  refine AWp_seq ?_
  refine AWp_seq ?_
  refine AWp_E rfl ?_
  refine ed (iv x) rfl rfl (dv_move rfl) ?_
  refine ed (iv y) rfl rfl (dv_move rfl) ?_
  rcases Decidable.em ((y : Int) < x) with hc2 | hc2
  ·
   refine ed yes rfl rfl (dv_bin rfl rfl (bi_gtr_t hc2)) ?_
   refine E_nil ?_
   refine th_norm ?_
   refine AWp_cond (t := true) rfl (fun _ => ?_) nofun
   refine AWp_seq ?_
   refine AWp_E rfl ?_
   refine ed (iv 1) rfl rfl (dv_assign rfl) ?_
   refine E_nil ?_
   refine th_norm ?_
   refine AWp_ret (th_ret (?_))
   refine ret_of ?_
   refine readsRes_of (rs := [.tmp 4]) (vs := [iv 1]) rfl (re_cons (re_tmp rfl) (re_nil)) rfl ?_
   refine ⟨1, ?_, rfl, .base hS.keep⟩
   · unfold icmp
     split <;> (try split) <;> omega
  ·
   refine ed no rfl rfl (dv_bin rfl rfl (bi_gtr_f hc2)) ?_
   refine E_nil ?_
   refine th_norm ?_
   refine AWp_cond (t := false) rfl nofun (fun _ => ?_)
   refine AWp_skip ?_
   refine th_norm ?_
   refine AWp_seq ?_
   refine AWp_E rfl ?_
   refine ed (iv 0) rfl rfl (dv_assign rfl) ?_
   refine E_nil ?_
   refine th_norm ?_
   refine AWp_ret (?_)
   refine ret_of ?_
   refine readsRes_of (rs := [.tmp 4]) (vs := [iv 0]) rfl (re_cons (re_tmp rfl) (re_nil)) rfl ?_
   refine ⟨0, ?_, rfl, .base hS.keep⟩
   · unfold icmp
     split <;> (try split) <;> omega
theorem CompareS_ok (a_a : Option Addr) (a_n a_c : Nat) (a : List (Int)) (b_a : Option Addr) (b_n b_c : Nat) (b : List (Int)) (a0 a1 b0 b1 : Int) (H : AH) (ha : VS H encI a_a a_n a) (hb : VS H encI b_a b_n b) (ha2 : a = [a0, a1]) (hb2 : b = [b0, b1]) : ACalls Tryz.prog 156 [sv a_a a_n a_c, sv b_a b_n b_c] H
  (fun r H' => ∃ (v_ : Int), ecmp (a0, a1) (b0, b1) = v_ ∧ r = iv v_ ∧ SepL H [] H') := by
 refine ACalls_of Tryz.func156 rfl (Nat.le_of_ble_eq_true rfl) ?_
 obtain ⟨H0, hH0⟩ : ∃ H0, H0 = H := ⟨_, rfl⟩
 have hS : SepL H0 [] H := hH0 ▸ SepL.refl H
 subst hH0
 obtain ⟨ha_s, ha_n, ha_b⟩ := id ha
 obtain ⟨hb_s, hb_n, hb_b⟩ := id hb
 subst ha2 hb2
 have hl2 : ([a0, a1] : List Int).length = 2 := rfl
 have hl3 : ([b0, b1] : List Int).length = 2 := rfl
 refine AWp_seq ?_
 refine AWp_E rfl ?_
 refine ed (iv 0) rfl rfl (dv_assign rfl) ?_
 refine E_nil ?_
 refine th_norm ?_
 refine AWp_seq ?_
 refine AWp_seq ?_
 refine AWp_E rfl ?_
 refine ed (sv a_a a_n a_c) rfl rfl (dv_move rfl) ?_
 refine ed (iv ((a_n : Nat) : Int)) rfl rfl (dv_len rfl rfl rfl rfl rfl) ?_
 refine ed (iv 0) rfl rfl (dv_move rfl) ?_
 refine E_nil ?_
 refine th_norm ?_
 refine AWp_block ?_
 obtain ⟨I1, hI1⟩ : ∃ I : Nat → Env → AH → Prop, ∀ m_ e_ Hl, I m_ e_ Hl = (∃ (t4 : Int) (i : Nat), m_ = 2 - i ∧ AllE [(0, sv a_a a_n a_c), (1, sv b_a b_n b_c), (4, iv t4), (9, sv a_a a_n a_c), (10, iv ((a_n : Nat) : Int)), (11, iv ((i : Nat) : Int))] e_ ∧ SepL H0 [] Hl ∧ (i ≤ 2) ∧ (∀ j, j < i → icmp (([a0, a1] : List Int).getD j 0) (([b0, b1] : List Int).getD j 0) = 0)) := ⟨_, fun _ _ _ => rfl⟩
 refine AWp_loop I1 (2 - (0)) ?_ ?_
 ·
  rw [hI1]
  refine ⟨0, 0, rfl, (all_c rfl (all_c rfl (all_c rfl (all_c rfl (all_c rfl (all_c rfl all_n)))))), hS, ?_, ?_⟩
  · omega
  · intro j hj; omega
 ·
  intro m2 _ H hl3
  rw [hI1] at hl3
  obtain ⟨t4, i, hm4, he5, hS, hi, hinv⟩ := hl3
  obtain ⟨e6, rfl⟩ := he5.ex
  refine AWp_seq ?_
  refine AWp_E rfl ?_
  rcases Decidable.em (((i : Nat) : Int) < ((a_n : Nat) : Int)) with hc7 | hc7
  ·
   refine ed yes rfl rfl (dv_bin rfl rfl (bi_lss_t hc7)) ?_
   refine E_nil ?_
   refine th_norm ?_
   refine AWp_seq ?_
   refine AWp_cond (t := true) rfl (fun _ => ?_) nofun
   refine AWp_skip ?_
   refine th_norm ?_
   refine AWp_seq ?_
   refine AWp_block ?_
   refine AWp_seq ?_
   refine AWp_E rfl ?_
   refine ed (iv ((i : Nat) : Int)) rfl rfl (dv_move rfl) ?_
   obtain ⟨x8, hx8⟩ := get_el (xs := [a0, a1]) (i := i) (by omega)
   refine ed (sp a_a (i * 1)) rfl rfl (dv_indexAddr (a := sv a_a a_n a_c) (b := iv ((i : Nat) : Int)) rfl rfl (ix_sls (n := a_n) (i := i) (ha_s.keep hS.keep) hx8 rfl rfl rfl (by omega))) ?_
   refine ed (iv x8) rfl rfl (dv_load rfl (ld_sls (sz := 1) (off := 0) (ha_s.keep hS.keep) hx8 (fun _ => rfl) rfl rfl rfl)) ?_
   refine ed (iv ((i : Nat) : Int)) rfl rfl (dv_assign rfl) ?_
   refine ed (iv x8) rfl rfl (dv_assign rfl) ?_
   refine E_nil ?_
   refine th_norm ?_
   refine AWp_seq ?_
   refine AWp_seq ?_
   refine AWp_E rfl ?_
   refine ed (iv ((i : Nat) : Int)) rfl rfl (dv_move rfl) ?_
   refine ed (sv b_a b_n b_c) rfl rfl (dv_move rfl) ?_
   refine ed (iv ((b_n : Nat) : Int)) rfl rfl (dv_len rfl rfl rfl rfl rfl) ?_
   rcases Decidable.em (((b_n : Nat) : Int) ≤ ((i : Nat) : Int)) with hc9 | hc9
   ·
    refine ed yes rfl rfl (dv_bin rfl rfl (bi_geq_t hc9)) ?_
    refine E_nil ?_
    refine th_norm ?_
    refine AWp_cond (t := true) rfl (fun _ => ?_) nofun
    refine AWp_seq ?_
    refine AWp_E rfl ?_
    refine ed (iv 1) rfl rfl (dv_assign rfl) ?_
    refine E_nil ?_
    refine th_norm ?_
    refine AWp_ret (th_ret (bl_ret (th_ret (th_ret (bl_ret (th_ret (?_)))))))
    refine ret_of ?_
    refine readsRes_of (rs := [.tmp 4]) (vs := [iv 1]) rfl (re_cons (re_tmp rfl) (re_nil)) rfl ?_
    refine ⟨1, ?_, rfl, .base hS.keep⟩
    · exfalso; omega
   ·
    refine ed no rfl rfl (dv_bin rfl rfl (bi_geq_f hc9)) ?_
    refine E_nil ?_
    refine th_norm ?_
    refine AWp_cond (t := false) rfl nofun (fun _ => ?_)
    refine AWp_skip ?_
    refine th_norm ?_
    refine AWp_seq ?_
    refine AWp_E rfl ?_
    refine ed (sv b_a b_n b_c) rfl rfl (dv_move rfl) ?_
    refine ed (iv ((i : Nat) : Int)) rfl rfl (dv_move rfl) ?_
    obtain ⟨x10, hx10⟩ := get_el (xs := [b0, b1]) (i := i) (by omega)
    refine ed (sp b_a (i * 1)) rfl rfl (dv_indexAddr (a := sv b_a b_n b_c) (b := iv ((i : Nat) : Int)) rfl rfl (ix_sls (n := b_n) (i := i) (hb_s.keep hS.keep) hx10 rfl rfl rfl (by omega))) ?_
    refine ed (iv x10) rfl rfl (dv_load rfl (ld_sls (sz := 1) (off := 0) (hb_s.keep hS.keep) hx10 (fun _ => rfl) rfl rfl rfl)) ?_
    refine ed (iv x10) rfl rfl (dv_assign rfl) ?_
    refine E_nil ?_
    refine th_norm ?_
    refine AWp_seq ?_
    refine AWp_E rfl ?_
    refine ed (iv x8) rfl rfl (dv_move rfl) ?_
    refine ed (iv x10) rfl rfl (dv_move rfl) ?_
    refine E_call (vs := [iv x8, iv x10]) rfl rfl rfl rfl rfl rfl rfl (CompareI_ok x8 x10 _) ?_
    rintro _ H ⟨v11, rfl, rfl, hQ⟩
    have hS := hS.up hQ.keep
    refine ed (iv (icmp x8 x10)) rfl rfl (dv_assign rfl) ?_
    refine E_nil ?_
    refine th_norm ?_
    refine AWp_seq ?_
    refine AWp_E rfl ?_
    refine ed (iv (icmp x8 x10)) rfl rfl (dv_move rfl) ?_
    rcases Decidable.em ((icmp x8 x10 : Int) ≠ 0) with hc12 | hc12
    ·
     refine ed yes rfl rfl (dv_bin rfl rfl (bi_neq_t hc12)) ?_
     refine E_nil ?_
     refine th_norm ?_
     refine AWp_cond (t := true) rfl (fun _ => ?_) nofun
     refine AWp_seq ?_
     refine AWp_E rfl ?_
     refine ed (iv (icmp x8 x10)) rfl rfl (dv_move rfl) ?_
     refine ed (iv (icmp x8 x10)) rfl rfl (dv_assign rfl) ?_
     refine E_nil ?_
     refine th_norm ?_
     refine AWp_ret (bl_ret (th_ret (th_ret (bl_ret (th_ret (?_))))))
     refine ret_of ?_
     refine readsRes_of (rs := [.tmp 4]) (vs := [iv (icmp x8 x10)]) rfl (re_cons (re_tmp rfl) (re_nil)) rfl ?_
     refine ⟨(icmp x8 x10), ?_, rfl, .base hS.keep⟩
     · unfold ecmp
       dsimp only
       have hii : i = 0 ∨ i = 1 := by omega
       rcases hii with rfl | rfl
       · simp only [List.getElem?_cons_zero, Option.some.injEq] at hx8 hx10; subst hx8 hx10; rw [if_pos hc12]
       · have h0 := hinv 0 (by omega)
         simp only [List.getD_cons_zero] at h0
         simp only [List.getElem?_cons_succ, List.getElem?_cons_zero, Option.some.injEq] at hx8 hx10; subst hx8 hx10; rw [h0]; rfl
    ·
     refine ed no rfl rfl (dv_bin rfl rfl (bi_neq_f hc12)) ?_
     refine E_nil ?_
     refine th_norm ?_
     refine AWp_cond (t := false) rfl nofun (fun _ => ?_)
     refine AWp_skip ?_
     refine bl_norm ?_
     refine th_norm ?_
     refine AWp_E rfl ?_
     refine ed (iv ((i + 1 : Nat) : Int)) rfl rfl (dv_bin rfl rfl (bi_add (by omega))) ?_
     refine ed (iv ((i + 1 : Nat) : Int)) rfl rfl (dv_move rfl) ?_
     refine E_nil ?_
     refine loop_next (I := I1) (2 - (i + 1)) (by rw [hm4]; omega) ?_
     rw [hI1]
     refine ⟨t4, i + 1, rfl, (all_c rfl (all_c rfl (all_c rfl (all_c rfl (all_c rfl (all_c rfl all_n)))))), hS, ?_, ?_⟩
     · omega
     · intro j hj
       by_cases hji : j < i
       · exact hinv j hji
       · have hje : j = i := by omega
         subst hje; rw [getD_of hx8, getD_of hx10]; omega
  ·
   refine ed no rfl rfl (dv_bin rfl rfl (bi_lss_f hc7)) ?_
   refine E_nil ?_
   refine th_norm ?_
   refine AWp_seq ?_
   refine AWp_cond (t := false) rfl nofun (fun _ => ?_)
   refine AWp_exit (th_exit (th_exit (bl_exit (?_))))
   refine th_norm ?_
   refine AWp_seq ?_
   refine AWp_seq ?_
   refine AWp_E rfl ?_
   refine ed (sv a_a a_n a_c) rfl rfl (dv_move rfl) ?_
   refine ed (iv ((a_n : Nat) : Int)) rfl rfl (dv_len rfl rfl rfl rfl rfl) ?_
   refine ed (sv b_a b_n b_c) rfl rfl (dv_move rfl) ?_
   refine ed (iv ((b_n : Nat) : Int)) rfl rfl (dv_len rfl rfl rfl rfl rfl) ?_
   rcases Decidable.em (((a_n : Nat) : Int) < ((b_n : Nat) : Int)) with hc13 | hc13
   ·
    refine ed yes rfl rfl (dv_bin rfl rfl (bi_lss_t hc13)) ?_
    refine E_nil ?_
    refine th_norm ?_
    refine AWp_cond (t := true) rfl (fun _ => ?_) nofun
    refine AWp_seq ?_
    refine AWp_E rfl ?_
    refine ed (iv (-1)) rfl rfl (dv_assign rfl) ?_
    refine E_nil ?_
    refine th_norm ?_
    refine AWp_ret (th_ret (?_))
    refine ret_of ?_
    refine readsRes_of (rs := [.tmp 4]) (vs := [iv (-1)]) rfl (re_cons (re_tmp rfl) (re_nil)) rfl ?_
    refine ⟨(-1), ?_, rfl, .base hS.keep⟩
    · exfalso; omega
   ·
    refine ed no rfl rfl (dv_bin rfl rfl (bi_lss_f hc13)) ?_
    refine E_nil ?_
    refine th_norm ?_
    refine AWp_cond (t := false) rfl nofun (fun _ => ?_)
    refine AWp_skip ?_
    refine th_norm ?_
    refine AWp_seq ?_
    refine AWp_E rfl ?_
    refine ed (iv 0) rfl rfl (dv_assign rfl) ?_
    refine E_nil ?_
    refine th_norm ?_
    refine AWp_ret (?_)
    refine ret_of ?_
    refine readsRes_of (rs := [.tmp 4]) (vs := [iv 0]) rfl (re_cons (re_tmp rfl) (re_nil)) rfl ?_
    refine ⟨0, ?_, rfl, .base hS.keep⟩
    · unfold ecmp
      dsimp only
      have hii : i = 2 := by omega
      have h0 := hinv 0 (by omega)
      have h1 := hinv 1 (by omega)
      simp only [List.getD_cons_zero, List.getD_cons_succ] at h0 h1
      rw [h0, h1]; rfl
theorem compareEdges_ok (x : Int × Int) (y : Int × Int) (H : AH)  : ACalls Tryz.prog 153 [.agg #[iv x.1, iv x.2], .agg #[iv y.1, iv y.2]] H
  (fun r H' => ∃ (v_ : Int), ecmp x y = v_ ∧ r = iv v_ ∧ SepL H [] H') := by
 refine ACalls_of Tryz.func153 rfl (Nat.le_of_ble_eq_true rfl) ?_
 obtain ⟨H0, hH0⟩ : ∃ H0, H0 = H := ⟨_, rfl⟩
 have hS : SepL H0 [] H := hH0 ▸ SepL.refl H
 subst hH0
 refine AWp_seq ?_
 refine AWp_E rfl ?_
 refine S_box (l := [iv x.1, iv x.2]) hS rfl rfl rfl rfl rfl fun b1 H hS => ?_
 refine S_box (l := [iv y.1, iv y.2]) hS rfl rfl rfl rfl rfl fun b2 H hS => ?_
 refine ed (iv 0) rfl rfl (dv_assign rfl) ?_
 refine E_nil ?_
 refine th_norm ?_
 refine AWp_seq ?_
 have hR := hS.pushes
 have hKb := hS.keep
 have hB := fun Hc (hc : Keep _ Hc) => hR [] Hc (.base hc)
 refine AWp_D0 rfl (by decide +kernel) fun hM => ?_
 refine wd (sv (some ⟨b1, 0, none⟩) 2 2) rfl rfl (fun _ hc => dv_slice0 (a := pt b1 0) rfl rfl) ?_
 refine wd (sv (some ⟨b2, 0, none⟩) 2 2) rfl rfl (fun _ hc => dv_slice0 (a := pt b2 0) rfl rfl) ?_
 refine W_call (vs := [sv (some ⟨b1, 0, none⟩) 2 2, sv (some ⟨b2, 0, none⟩) 2 2]) rfl rfl rfl rfl rfl rfl rfl (CompareS_ok (some ⟨b1, 0, none⟩) 2 2 ([x.1, x.2] : List Int) (some ⟨b2, 0, none⟩) 2 2 ([y.1, y.2] : List Int) x.1 x.2 y.1 y.2 _ ⟨(sls_box ((hR _ _ hM).box 0 rfl) rfl), rfl, (by first | omega | decide)⟩ ⟨(sls_box ((hR _ _ hM).box 1 rfl) rfl), rfl, (by first | omega | decide)⟩ (by rfl) (by rfl)) ?_
 rintro _ H ⟨v3, rfl, rfl, hQ⟩
 have hM := hM.up hQ.keep
 refine ⟨hM.keep, ?_⟩
 refine wd (iv (ecmp (x.1, x.2) (y.1, y.2))) rfl rfl (fun _ hc => dv_assign rfl) ?_
 have hS := hR _ _ hM
 refine W_nil ?_
 refine th_norm ?_
 refine AWp_ret (?_)
 refine ret_of ?_
 refine readsRes_of (rs := [.tmp 4]) (vs := [iv (ecmp (x.1, x.2) (y.1, y.2))]) rfl (re_cons (re_tmp rfl) (re_nil)) rfl ?_
 refine ⟨(ecmp (x.1, x.2) (y.1, y.2)), ?_, rfl, .base hS.keep⟩
 · first | rfl | omega | (simp [*]; done)
end Go.Ab

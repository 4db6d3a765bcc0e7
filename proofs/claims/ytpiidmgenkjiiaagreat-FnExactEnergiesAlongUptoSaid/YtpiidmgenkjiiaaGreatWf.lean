/- Walks through functions of the program: what each computes, told over that view of memory; each with the conditions that it tells. -/
import Derived.Test.YtpiidmgenkjiiaaGreatProg
import Derived.Test.YtpiidmgenkjiiaaGreatWd
import Derived.Test.YtpiidmgenkjiiaaGreatVb
import Derived.Test.YtpiidmgenkjiiaaGreatWe
set_option maxRecDepth 100000
set_option maxHeartbeats 4000000
namespace Go.Ab
open Go.Proofs
theorem l00Rises_ok (list_a : Option Addr) (list_n list_c : Nat) (list : List (Int)) (low : Int) (high : Int) (n : Nat) (H : AH) (hlist : VS H encI list_a list_n list) (hlo : low = 0) (hhi : high = (n : Int) - 1) (hnb : n ≤ 1048576) : ACalls Tryz.prog 115 [sv list_a list_n list_c, iv low, iv high] H
  (fun r H' => (heldP n list ∧ r = yes ∧ SepL H [] H') ∨ (¬(heldP n list) ∧ r = no ∧ SepL H [] H')) := by
 refine ACalls_of Tryz.func115 rfl (Nat.le_of_ble_eq_true rfl) ?_
 obtain ⟨H0, hH0⟩ : ∃ H0, H0 = H := ⟨_, rfl⟩
 have hS : SepL H0 [] H := hH0 ▸ SepL.refl H
 subst hH0
 obtain ⟨hlist_s, hlist_n, hlist_b⟩ := id hlist
 refine AWp_seq ?_
 refine AWp_E rfl ?_
 refine ed no rfl rfl (dv_assign rfl) ?_
 refine E_nil ?_
 refine th_norm ?_
 refine AWp_seq ?_
 refine AWp_seq ?_
 refine AWp_E rfl ?_
 refine ed (iv 0) rfl rfl (dv_assign rfl) ?_
 refine E_nil ?_
 refine th_norm ?_
 refine AWp_block ?_
 obtain ⟨I1, hI1⟩ : ∃ I : Nat → Env → AH → Prop, ∀ m_ e_ Hl, I m_ e_ Hl = (∃ (t6 : Bool) (i : Nat), m_ = list_n - i ∧ AllE [(0, sv list_a list_n list_c), (1, iv low), (2, iv high), (6, .bool t6), (7, iv ((i : Nat) : Int))] e_ ∧ SepL H0 [] Hl ∧ (i ≤ list_n) ∧ (heldJ n list i)) := ⟨_, fun _ _ _ => rfl⟩
 refine AWp_loop I1 (list_n - (0)) ?_ ?_
 ·
  rw [hI1]
  refine ⟨false, 0, rfl, (all_c rfl (all_c rfl (all_c rfl (all_c rfl (all_c rfl all_n))))), hS, ?_, ?_⟩
  · omega
  · exact heldJ_zero _ _
 ·
  intro m2 _ H hl3
  rw [hI1] at hl3
  obtain ⟨t6, i, hm4, he5, hS, hi, hJ⟩ := hl3
  obtain ⟨e6, rfl⟩ := he5.ex
  refine AWp_seq ?_
  refine AWp_seq ?_
  refine AWp_E rfl ?_
  refine ed (iv ((i : Nat) : Int)) rfl rfl (dv_move rfl) ?_
  refine ed (sv list_a list_n list_c) rfl rfl (dv_move rfl) ?_
  refine ed (iv ((list_n : Nat) : Int)) rfl rfl (dv_len rfl rfl rfl rfl rfl) ?_
  rcases Decidable.em (((i : Nat) : Int) < ((list_n : Nat) : Int)) with hc7 | hc7
  ·
   refine ed yes rfl rfl (dv_bin rfl rfl (bi_lss_t hc7)) ?_
   refine E_nil ?_
   refine th_norm ?_
   refine AWp_cond (t := true) rfl (fun _ => ?_) nofun
   refine AWp_skip ?_
   refine th_norm ?_
   refine AWp_seq ?_
   refine AWp_block ?_
   refine AWp_seq ?_
   have hR := hS.pushes
   have hKb := hS.keep
   have hB := fun Hc (hc : Keep _ Hc) => hR [] Hc (.base hc)
   refine AWp_D0 rfl (by decide +kernel) fun hM => ?_
   refine wd (sv list_a list_n list_c) rfl rfl (fun _ hc => dv_move rfl) ?_
   refine wd (iv ((i : Nat) : Int)) rfl rfl (fun _ hc => dv_move rfl) ?_
   obtain ⟨x8, hx8⟩ := get_el (xs := list) (i := i) (by omega)
   refine wd (sp list_a (i * 1)) rfl rfl (fun _ hc => dv_indexAddr (a := sv list_a list_n list_c) (b := iv ((i : Nat) : Int)) rfl rfl (ix_sls (n := list_n) (i := i) (hlist_s.keep (hKb.trans hc)) hx8 rfl rfl rfl (by omega))) ?_
   refine wd (iv x8) rfl rfl (fun _ hc => dv_load rfl (ld_sls (sz := 1) (off := 0) (hlist_s.keep (hKb.trans hc)) hx8 (fun _ => rfl) rfl rfl rfl)) ?_
   refine wd (iv low) rfl rfl (fun _ hc => dv_move rfl) ?_
   refine wd (iv high) rfl rfl (fun _ hc => dv_move rfl) ?_
   refine W_call (vs := [iv x8, iv low, iv high]) rfl rfl rfl rfl rfl rfl rfl (l00In_ok x8 low high _) ?_
   rintro _ H (⟨h9, rfl, hQ⟩ | ⟨h10, rfl, hQ⟩)
   ·
    have hM := hM.up hQ.keep
    refine ⟨hM.keep, ?_⟩
    refine wd no rfl rfl (fun _ hc => dv_un rfl rfl) ?_
    refine wd no rfl rfl (fun _ hc => dv_move rfl) ?_
    refine wd (iv ((i : Nat) : Int)) rfl rfl (fun _ hc => dv_move rfl) ?_
    rcases Decidable.em ((0 : Int) < ((i : Nat) : Int)) with hc11 | hc11
    ·
     refine wd yes rfl rfl (fun _ hc => dv_bin rfl rfl (bi_gtr_t hc11)) ?_
     refine wd yes rfl rfl (fun _ hc => dv_move rfl) ?_
     refine wd (sv list_a list_n list_c) rfl rfl (fun _ hc => dv_move rfl) ?_
     refine wd (iv ((i : Nat) : Int)) rfl rfl (fun _ hc => dv_move rfl) ?_
     refine wd (iv (((i : Nat) : Int) - 1)) rfl rfl (fun _ hc => dv_bin rfl rfl (bi_sub (by omega))) ?_
     obtain ⟨x12, hx12⟩ := get_el (xs := list) (i := (((i : Nat) : Int) - 1).toNat) (by omega)
     refine wd (sp list_a (((((i : Nat) : Int) - 1).toNat) * 1)) rfl rfl (fun _ hc => dv_indexAddr (a := sv list_a list_n list_c) (b := iv (((i : Nat) : Int) - 1)) rfl rfl (ix_sls (n := list_n) (i := ((((i : Nat) : Int) - 1).toNat)) (hlist_s.keep (hKb.trans hc)) hx12 rfl rfl (by omega) (by omega))) ?_
     refine wd (iv x12) rfl rfl (fun _ hc => dv_load rfl (ld_sls (sz := 1) (off := 0) (hlist_s.keep (hKb.trans hc)) hx12 (fun _ => rfl) rfl rfl rfl)) ?_
     refine wd (sv list_a list_n list_c) rfl rfl (fun _ hc => dv_move rfl) ?_
     refine wd (iv ((i : Nat) : Int)) rfl rfl (fun _ hc => dv_move rfl) ?_
     refine wd (sp list_a (i * 1)) rfl rfl (fun _ hc => dv_indexAddr (a := sv list_a list_n list_c) (b := iv ((i : Nat) : Int)) rfl rfl (ix_sls (n := list_n) (i := i) (hlist_s.keep (hKb.trans hc)) hx8 rfl rfl rfl (by omega))) ?_
     refine wd (iv x8) rfl rfl (fun _ hc => dv_load rfl (ld_sls (sz := 1) (off := 0) (hlist_s.keep (hKb.trans hc)) hx8 (fun _ => rfl) rfl rfl rfl)) ?_
     rcases Decidable.em ((x8 : Int) ≤ x12) with hc13 | hc13
     ·
      refine wd yes rfl rfl (fun _ hc => dv_bin rfl rfl (bi_geq_t hc13)) ?_
      refine wd yes rfl rfl (fun _ hc => dv_pick (t := true) rfl rfl) ?_
      refine wd yes rfl rfl (fun _ hc => dv_pick (t := false) rfl rfl) ?_
      have hS := hR _ _ hM
      refine W_nil ?_
      refine th_norm ?_
      refine AWp_cond (t := true) rfl (fun _ => ?_) nofun
      refine AWp_seq ?_
      refine AWp_E rfl ?_
      refine ed no rfl rfl (dv_assign rfl) ?_
      refine E_nil ?_
      refine th_norm ?_
      refine AWp_ret (bl_ret (th_ret (th_ret (bl_ret (th_ret (?_))))))
      refine ret_of ?_
      refine readsRes_of (rs := [.tmp 6]) (vs := [no]) rfl (re_cons (re_tmp rfl) (re_nil)) rfl ?_
      refine .inr (?_)
      refine ⟨?_, rfl, .base hS.keep⟩
      · refine heldP_no hx8 fun hh => ?_
        unfold inP at hh
        have hy := hx12
        have h2 := hh.2 (i - 1) x12 (by omega) (by rw [show i - 1 = (((i : Nat) : Int) - 1).toNat by omega]; exact hy)
        omega
     ·
      refine wd no rfl rfl (fun _ hc => dv_bin rfl rfl (bi_geq_f hc13)) ?_
      refine wd no rfl rfl (fun _ hc => dv_pick (t := true) rfl rfl) ?_
      refine wd no rfl rfl (fun _ hc => dv_pick (t := false) rfl rfl) ?_
      have hS := hR _ _ hM
      refine W_nil ?_
      refine th_norm ?_
      refine AWp_cond (t := false) rfl nofun (fun _ => ?_)
      refine AWp_skip ?_
      refine bl_norm ?_
      refine th_norm ?_
      refine AWp_E rfl ?_
      refine ed (iv ((i : Nat) : Int)) rfl rfl (dv_move rfl) ?_
      refine ed (iv ((i + 1 : Nat) : Int)) rfl rfl (dv_bin rfl rfl (bi_add (by omega))) ?_
      refine ed (iv ((i + 1 : Nat) : Int)) rfl rfl (dv_assign rfl) ?_
      refine E_nil ?_
      refine loop_next (I := I1) (list_n - (i + 1)) (by rw [hm4]; omega) ?_
      rw [hI1]
      refine ⟨t6, i + 1, rfl, (all_c rfl (all_c rfl (all_c rfl (all_c rfl (all_c rfl all_n))))), hS, ?_, ?_⟩
      · omega
      · refine heldJ_step hJ hx8 (by unfold inP; omega) fun j q hj hq => ?_
        subst hj
        have hy := hx12
        rw [show ((((j + 1 : Nat) : Int)) - 1).toNat = j by omega] at hy
        rw [hq] at hy; injection hy with hy; omega
    ·
     refine wd no rfl rfl (fun _ hc => dv_bin rfl rfl (bi_gtr_f hc11)) ?_
     refine wd no rfl rfl (fun _ hc => dv_move rfl) ?_
     refine W_skip rfl rfl ?_
     refine W_skip rfl rfl ?_
     refine W_skip rfl rfl ?_
     refine W_skip rfl rfl ?_
     refine W_skip rfl rfl ?_
     refine W_skip rfl rfl ?_
     refine W_skip rfl rfl ?_
     refine W_skip rfl rfl ?_
     refine W_skip rfl rfl ?_
     refine W_skip rfl rfl ?_
     refine wd no rfl rfl (fun _ hc => dv_pick (t := false) rfl rfl) ?_
     refine wd no rfl rfl (fun _ hc => dv_pick (t := false) rfl rfl) ?_
     have hS := hR _ _ hM
     refine W_nil ?_
     refine th_norm ?_
     refine AWp_cond (t := false) rfl nofun (fun _ => ?_)
     refine AWp_skip ?_
     refine bl_norm ?_
     refine th_norm ?_
     refine AWp_E rfl ?_
     refine ed (iv ((i : Nat) : Int)) rfl rfl (dv_move rfl) ?_
     refine ed (iv ((i + 1 : Nat) : Int)) rfl rfl (dv_bin rfl rfl (bi_add (by omega))) ?_
     refine ed (iv ((i + 1 : Nat) : Int)) rfl rfl (dv_assign rfl) ?_
     refine E_nil ?_
     refine loop_next (I := I1) (list_n - (i + 1)) (by rw [hm4]; omega) ?_
     rw [hI1]
     refine ⟨t6, i + 1, rfl, (all_c rfl (all_c rfl (all_c rfl (all_c rfl (all_c rfl all_n))))), hS, ?_, ?_⟩
     · omega
     · refine heldJ_step hJ hx8 (by unfold inP; omega) fun j q hj hq => ?_
       subst hj
       exfalso; omega
   ·
    have hM := hM.up hQ.keep
    refine ⟨hM.keep, ?_⟩
    refine wd yes rfl rfl (fun _ hc => dv_un rfl rfl) ?_
    refine wd yes rfl rfl (fun _ hc => dv_move rfl) ?_
    refine W_skip rfl rfl ?_
    refine W_skip rfl rfl ?_
    refine W_skip rfl rfl ?_
    refine W_skip rfl rfl ?_
    refine W_skip rfl rfl ?_
    refine W_skip rfl rfl ?_
    refine W_skip rfl rfl ?_
    refine W_skip rfl rfl ?_
    refine W_skip rfl rfl ?_
    refine W_skip rfl rfl ?_
    refine W_skip rfl rfl ?_
    refine W_skip rfl rfl ?_
    refine W_skip rfl rfl ?_
    refine W_skip rfl rfl ?_
    refine wd yes rfl rfl (fun _ hc => dv_pick (t := true) rfl rfl) ?_
    have hS := hR _ _ hM
    refine W_nil ?_
    refine th_norm ?_
    refine AWp_cond (t := true) rfl (fun _ => ?_) nofun
    refine AWp_seq ?_
    refine AWp_E rfl ?_
    refine ed no rfl rfl (dv_assign rfl) ?_
    refine E_nil ?_
    refine th_norm ?_
    refine AWp_ret (bl_ret (th_ret (th_ret (bl_ret (th_ret (?_))))))
    refine ret_of ?_
    refine readsRes_of (rs := [.tmp 6]) (vs := [no]) rfl (re_cons (re_tmp rfl) (re_nil)) rfl ?_
    refine .inr (?_)
    refine ⟨?_, rfl, .base hS.keep⟩
    · refine heldP_no hx8 fun hh => ?_
      unfold inP at hh
      omega
  ·
   refine ed no rfl rfl (dv_bin rfl rfl (bi_lss_f hc7)) ?_
   refine E_nil ?_
   refine th_norm ?_
   refine AWp_cond (t := false) rfl nofun (fun _ => ?_)
   refine AWp_exit (th_exit (th_exit (bl_exit (?_))))
   refine th_norm ?_
   refine AWp_seq ?_
   refine AWp_E rfl ?_
   refine ed yes rfl rfl (dv_assign rfl) ?_
   refine E_nil ?_
   refine th_norm ?_
   refine AWp_ret (?_)
   refine ret_of ?_
   refine readsRes_of (rs := [.tmp 6]) (vs := [yes]) rfl (re_cons (re_tmp rfl) (re_nil)) rfl ?_
   refine .inl ?_
   refine ⟨?_, rfl, .base hS.keep⟩
   · have hii : i = list.length := by omega
     unfold heldP; rw [← hii]; exact hJ
theorem l05Held_ok (b_p b_o : Nat) (b : LB) (held_a : Option Addr) (held_n held_c : Nat) (held : List (Int)) (H : AH) (hbpv : PV H b_p b_o b.v) (hb : b.ok H) (hheld : VS H encI held_a held_n held) : ACalls Tryz.prog 85 [pt b_p b_o, sv held_a held_n held_c] H
  (fun r H' => (heldP b.m.ps.length held ∧ r = yes ∧ SepL H [] H') ∨ (¬(heldP b.m.ps.length held) ∧ r = no ∧ SepL H [] H')) := by
 refine ACalls_of Tryz.func85 rfl (Nat.le_of_ble_eq_true rfl) ?_
 obtain ⟨H0, hH0⟩ : ∃ H0, H0 = H := ⟨_, rfl⟩
 have hS : SepL H0 [] H := hH0 ▸ SepL.refl H
 subst hH0
 obtain ⟨⟨hb_1_ps, hb_1_pn, hb_1_pb⟩, hb_1_ts, hb_1_tn, hb_1_tb⟩ := id hb.1
 obtain ⟨⟨hb_ss, hb_sn, hb_sb⟩, hb_ws, hb_wn, hb_wb⟩ := hb.2
 obtain ⟨hheld_s, hheld_n, hheld_b⟩ := id hheld
 refine AWp_seq ?_
 refine AWp_E rfl ?_
 refine ed no rfl rfl (dv_assign rfl) ?_
 refine E_nil ?_
 refine th_norm ?_
 refine AWp_seq ?_
 refine AWp_E rfl ?_
 refine ed (sv held_a held_n held_c) rfl rfl (dv_move rfl) ?_
 refine ed (pt b_p b_o) rfl rfl (dv_move rfl) ?_
 refine ed (pt b_p b_o) rfl rfl (dv_nilCheck rfl) ?_
 refine ed (pt b_p b_o) rfl rfl (dv_fieldAddr rfl rfl) ?_
 refine ed (pt b_p b_o) rfl rfl (dv_fieldAddr rfl rfl) ?_
 refine ed (sv b.m.pa b.m.pn b.m.pc) rfl rfl (dv_load rfl (ld_pv (off := 0) (hbpv.keep hS.keep) rfl rfl rfl)) ?_
 refine ed (iv ((b.m.pn : Nat) : Int)) rfl rfl (dv_len rfl rfl rfl rfl rfl) ?_
 refine ed (iv (((b.m.pn : Nat) : Int) - 1)) rfl rfl (dv_bin rfl rfl (bi_sub (by omega))) ?_
 refine E_call (vs := [sv held_a held_n held_c, iv 0, iv (((b.m.pn : Nat) : Int) - 1)]) rfl rfl rfl rfl rfl rfl rfl (l00Rises_ok held_a held_n held_c held 0 (((b.m.pn : Nat) : Int) - 1) b.m.pn _ (hheld.keep hS.keep) (rfl) (by first | assumption | omega | (simp only [*]; assumption) | (simp_all; done)) (by first | assumption | omega | (simp only [*]; assumption) | (simp_all; done))) ?_
 rintro _ H (⟨h1, rfl, hQ⟩ | ⟨h2, rfl, hQ⟩)
 ·
  have hS := hS.up hQ.keep
  refine ed yes rfl rfl (dv_assign rfl) ?_
  refine E_nil ?_
  refine th_norm ?_
  refine AWp_ret (?_)
  refine ret_of ?_
  refine readsRes_of (rs := [.tmp 4]) (vs := [yes]) rfl (re_cons (re_tmp rfl) (re_nil)) rfl ?_
  refine .inl ?_
  refine ⟨?_, rfl, .base hS.keep⟩
  · rw [hb_1_pn]; assumption
 ·
  have hS := hS.up hQ.keep
  refine ed no rfl rfl (dv_assign rfl) ?_
  refine E_nil ?_
  refine th_norm ?_
  refine AWp_ret (?_)
  refine ret_of ?_
  refine readsRes_of (rs := [.tmp 4]) (vs := [no]) rfl (re_cons (re_tmp rfl) (re_nil)) rfl ?_
  refine .inr (?_)
  refine ⟨?_, rfl, .base hS.keep⟩
  · rw [hb_1_pn]; assumption
theorem l09Can_ok (b_p b_o : Nat) (b : LB) (held_a : Option Addr) (held_n held_c : Nat) (held : List (Int)) (v_a : Option Addr) (v_n v_c : Nat) (v : List (V3)) (step : Nat) (H : AH) (hbpv : PV H b_p b_o b.v) (hb : b.ok H) (hheld : VS H encI held_a held_n held) (hv : VS H encV v_a v_n v) : ACalls Tryz.prog 47 [pt b_p b_o, sv held_a held_n held_c, sv v_a v_n v_c, fl step] H
  (fun r H' => (canP b.d held v.length step ∧ r = yes ∧ SepL H [] H') ∨ (¬(canP b.d held v.length step) ∧ r = no ∧ SepL H [] H')) := by
 refine ACalls_of Tryz.func47 rfl (Nat.le_of_ble_eq_true rfl) ?_
 obtain ⟨H0, hH0⟩ : ∃ H0, H0 = H := ⟨_, rfl⟩
 have hS : SepL H0 [] H := hH0 ▸ SepL.refl H
 subst hH0
 obtain ⟨⟨hb_1_ps, hb_1_pn, hb_1_pb⟩, hb_1_ts, hb_1_tn, hb_1_tb⟩ := id hb.1
 obtain ⟨⟨hb_ss, hb_sn, hb_sb⟩, hb_ws, hb_wn, hb_wb⟩ := hb.2
 obtain ⟨hheld_s, hheld_n, hheld_b⟩ := id hheld
 obtain ⟨hv_s, hv_n, hv_b⟩ := id hv
 refine AWp_seq ?_
 refine AWp_E rfl ?_
 refine ed no rfl rfl (dv_assign rfl) ?_
 refine E_nil ?_
 refine th_norm ?_
 refine AWp_seq ?_
 refine AWp_E rfl ?_
 refine ed (pt b_p b_o) rfl rfl (dv_move rfl) ?_
 refine E_call (vs := [pt b_p b_o]) rfl rfl rfl rfl rfl rfl rfl (l03Is_ok b_p b_o b _ (hbpv.keep hS.keep) (hb.keep hS.keep)) ?_
 rintro _ H (⟨h1, rfl, hQ⟩ | ⟨h2, rfl, hQ⟩)
 ·
  have hS := hS.up hQ.keep
  refine ed yes rfl rfl (dv_move rfl) ?_
  refine ed (pt b_p b_o) rfl rfl (dv_move rfl) ?_
  refine ed (sv held_a held_n held_c) rfl rfl (dv_move rfl) ?_
  refine E_call (vs := [pt b_p b_o, sv held_a held_n held_c]) rfl rfl rfl rfl rfl rfl rfl (l05Held_ok b_p b_o b held_a held_n held_c held _ (hbpv.keep hS.keep) (hb.keep hS.keep) (hheld.keep hS.keep)) ?_
  rintro _ H (⟨h3, rfl, hQ⟩ | ⟨h4, rfl, hQ⟩)
  ·
   have hS := hS.up hQ.keep
   refine ed yes rfl rfl (dv_pick (t := true) rfl rfl) ?_
   refine ed yes rfl rfl (dv_move rfl) ?_
   refine ed (sv v_a v_n v_c) rfl rfl (dv_move rfl) ?_
   refine ed (iv ((v_n : Nat) : Int)) rfl rfl (dv_len rfl rfl rfl rfl rfl) ?_
   refine ed (pt b_p b_o) rfl rfl (dv_move rfl) ?_
   refine ed (pt b_p b_o) rfl rfl (dv_nilCheck rfl) ?_
   refine ed (pt b_p b_o) rfl rfl (dv_fieldAddr rfl rfl) ?_
   refine ed (pt b_p b_o) rfl rfl (dv_fieldAddr rfl rfl) ?_
   refine ed (sv b.m.pa b.m.pn b.m.pc) rfl rfl (dv_load rfl (ld_pv (off := 0) (hbpv.keep hS.keep) rfl rfl rfl)) ?_
   refine ed (iv ((b.m.pn : Nat) : Int)) rfl rfl (dv_len rfl rfl rfl rfl rfl) ?_
   rcases Decidable.em (((v_n : Nat) : Int) = ((b.m.pn : Nat) : Int)) with hc5 | hc5
   ·
    refine ed yes rfl rfl (dv_bin rfl rfl (bi_eql_t hc5)) ?_
    refine ed yes rfl rfl (dv_pick (t := true) rfl rfl) ?_
    refine ed yes rfl rfl (dv_move rfl) ?_
    refine ed (fl step) rfl rfl (dv_move rfl) ?_
    refine E_call (vs := [fl step]) rfl rfl rfl rfl rfl rfl rfl (l03Positive_ok step _) ?_
    rintro _ H (⟨h6, rfl, hQ⟩ | ⟨h7, rfl, hQ⟩)
    ·
     have hS := hS.up hQ.keep
     refine ed yes rfl rfl (dv_pick (t := true) rfl rfl) ?_
     refine ed yes rfl rfl (dv_assign rfl) ?_
     refine E_nil ?_
     refine th_norm ?_
     refine AWp_ret (?_)
     refine ret_of ?_
     refine readsRes_of (rs := [.tmp 8]) (vs := [yes]) rfl (re_cons (re_tmp rfl) (re_nil)) rfl ?_
     refine .inl ?_
     refine ⟨?_, rfl, .base hS.keep⟩
     · exact ⟨h1, h3, by show v.length = b.m.ps.length; omega, h6⟩
    ·
     have hS := hS.up hQ.keep
     refine ed no rfl rfl (dv_pick (t := true) rfl rfl) ?_
     refine ed no rfl rfl (dv_assign rfl) ?_
     refine E_nil ?_
     refine th_norm ?_
     refine AWp_ret (?_)
     refine ret_of ?_
     refine readsRes_of (rs := [.tmp 8]) (vs := [no]) rfl (re_cons (re_tmp rfl) (re_nil)) rfl ?_
     refine .inr (?_)
     refine ⟨?_, rfl, .base hS.keep⟩
     · intro hh
       first | exact absurd hh.1 h7 | exact absurd hh.2.1 h7 | exact absurd hh.2.2.2 h7 | exact absurd ⟨hh.1, hh.2.1⟩ h7
   ·
    refine ed no rfl rfl (dv_bin rfl rfl (bi_eql_f hc5)) ?_
    refine ed no rfl rfl (dv_pick (t := true) rfl rfl) ?_
    refine ed no rfl rfl (dv_move rfl) ?_
    refine E_skip rfl rfl ?_
    refine E_skip rfl rfl ?_
    refine ed no rfl rfl (dv_pick (t := false) rfl rfl) ?_
    refine ed no rfl rfl (dv_assign rfl) ?_
    refine E_nil ?_
    refine th_norm ?_
    refine AWp_ret (?_)
    refine ret_of ?_
    refine readsRes_of (rs := [.tmp 8]) (vs := [no]) rfl (re_cons (re_tmp rfl) (re_nil)) rfl ?_
    refine .inr (?_)
    refine ⟨?_, rfl, .base hS.keep⟩
    · intro hh
      have h3 : v.length = b.m.ps.length := hh.2.2.1
      omega
  ·
   have hS := hS.up hQ.keep
   refine ed no rfl rfl (dv_pick (t := true) rfl rfl) ?_
   refine ed no rfl rfl (dv_move rfl) ?_
   refine E_skip rfl rfl ?_
   refine E_skip rfl rfl ?_
   refine E_skip rfl rfl ?_
   refine E_skip rfl rfl ?_
   refine E_skip rfl rfl ?_
   refine E_skip rfl rfl ?_
   refine E_skip rfl rfl ?_
   refine E_skip rfl rfl ?_
   refine E_skip rfl rfl ?_
   refine ed no rfl rfl (dv_pick (t := false) rfl rfl) ?_
   refine ed no rfl rfl (dv_move rfl) ?_
   refine E_skip rfl rfl ?_
   refine E_skip rfl rfl ?_
   refine ed no rfl rfl (dv_pick (t := false) rfl rfl) ?_
   refine ed no rfl rfl (dv_assign rfl) ?_
   refine E_nil ?_
   refine th_norm ?_
   refine AWp_ret (?_)
   refine ret_of ?_
   refine readsRes_of (rs := [.tmp 8]) (vs := [no]) rfl (re_cons (re_tmp rfl) (re_nil)) rfl ?_
   refine .inr (?_)
   refine ⟨?_, rfl, .base hS.keep⟩
   · intro hh
     first | exact absurd hh.1 h4 | exact absurd hh.2.1 h4 | exact absurd hh.2.2.2 h4 | exact absurd ⟨hh.1, hh.2.1⟩ h4
 ·
  have hS := hS.up hQ.keep
  refine ed no rfl rfl (dv_move rfl) ?_
  refine E_skip rfl rfl ?_
  refine E_skip rfl rfl ?_
  refine E_skip rfl rfl ?_
  refine ed no rfl rfl (dv_pick (t := false) rfl rfl) ?_
  refine ed no rfl rfl (dv_move rfl) ?_
  refine E_skip rfl rfl ?_
  refine E_skip rfl rfl ?_
  refine E_skip rfl rfl ?_
  refine E_skip rfl rfl ?_
  refine E_skip rfl rfl ?_
  refine E_skip rfl rfl ?_
  refine E_skip rfl rfl ?_
  refine E_skip rfl rfl ?_
  refine E_skip rfl rfl ?_
  refine ed no rfl rfl (dv_pick (t := false) rfl rfl) ?_
  refine ed no rfl rfl (dv_move rfl) ?_
  refine E_skip rfl rfl ?_
  refine E_skip rfl rfl ?_
  refine ed no rfl rfl (dv_pick (t := false) rfl rfl) ?_
  refine ed no rfl rfl (dv_assign rfl) ?_
  refine E_nil ?_
  refine th_norm ?_
  refine AWp_ret (?_)
  refine ret_of ?_
  refine readsRes_of (rs := [.tmp 8]) (vs := [no]) rfl (re_cons (re_tmp rfl) (re_nil)) rfl ?_
  refine .inr (?_)
  refine ⟨?_, rfl, .base hS.keep⟩
  · intro hh
    first | exact absurd hh.1 h2 | exact absurd hh.2.1 h2 | exact absurd hh.2.2.2 h2 | exact absurd ⟨hh.1, hh.2.1⟩ h2
theorem l03Moved_ok (b_p b_o : Nat) (b : LB) (v_a : Option Addr) (v_n v_c : Nat) (v : List (V3)) (k : Nat) (H : AH) (hbpv : PV H b_p b_o b.v) (hb : b.ok H) (hv : VS H encV v_a v_n v) (hv0 : v.length = b.m.ps.length) : ACalls Tryz.prog 49 [pt b_p b_o, sv v_a v_n v_c, fl k] H
  (fun r H' => ∃ (b_ : LB), b_.d = movedD b.d v k ∧ (b_.m.ps.length = b_.m.pn ∧ b_.m.ts.length = b_.m.tn) ∧ (∀ q ∈ b_.m.ts, q.xs.length ≤ 1048576) ∧ (b_.ss.length = b_.sn ∧ b_.ws.length = b_.wn) ∧ r = bva b_ ∧ SepL H [sl encV 41 3 b_.m.pa b_.m.pc b_.m.ps, sl encR 53 1 b_.m.ta b_.m.tc b_.m.ts, rowsE 2 b_.m.ts, sl encS 116 4 b_.sa b_.sc b_.ss, sl encF 27 1 b_.wa b_.wc b_.ws] H') := by
 refine ACalls_of Tryz.func49 rfl (Nat.le_of_ble_eq_true rfl) ?_
 obtain ⟨H0, hH0⟩ : ∃ H0, H0 = H := ⟨_, rfl⟩
 have hS : SepL H0 [] H := hH0 ▸ SepL.refl H
 subst hH0
 obtain ⟨⟨hb_1_ps, hb_1_pn, hb_1_pb⟩, hb_1_ts, hb_1_tn, hb_1_tb⟩ := id hb.1
 obtain ⟨⟨hb_ss, hb_sn, hb_sb⟩, hb_ws, hb_wn, hb_wb⟩ := hb.2
 obtain ⟨hv_s, hv_n, hv_b⟩ := id hv
 refine AWp_seq ?_
 refine AWp_E rfl ?_
 refine S_box (l := [sv none 0 0, sv none 0 0, sv none 0 0, fl 0, fl 0, sv none 0 0, fl 0, fl 0, fl 0]) hS rfl rfl rfl rfl rfl fun b1 H hS => ?_
 refine E_nil ?_
 refine th_norm ?_
 refine AWp_seq ?_
 refine AWp_E rfl ?_
 refine ed (pt b_p b_o) rfl rfl (dv_move rfl) ?_
 refine E_call (vs := [pt b_p b_o]) rfl rfl rfl rfl rfl rfl rfl (l03Own_ok b_p b_o b _ (hbpv.keep hS.keep) (hb.keep hS.keep)) ?_
 rintro _ H ⟨b2, h3, h4, h5, h6, rfl, hQ⟩
 have hdlh3 : b2.m.ps.length = b.m.ps.length := congrArg (fun d : Bod => d.m.ps.length) h3
 have hdth3 : (rxs b2.m.ts).length = (rxs b.m.ts).length := congrArg (fun d : Bod => d.m.ts.length) h3
 simp only [rxs, List.length_map] at hdth3
 have hdsh3 : b2.ss.length = b.ss.length := congrArg (fun d : Bod => d.ss.length) h3
 have hdwh3 : b2.ws.length = b.ws.length := congrArg (fun d : Bod => d.ws.length) h3
 have hS := hS.push hQ
 refine S_box (l := [sv none 0 0, sv none 0 0, sv none 0 0, fl 0, fl 0, sv none 0 0, fl 0, fl 0, fl 0]) hS rfl rfl rfl rfl rfl fun b7 H hS => ?_
 refine S_store (i := 6) (yv := bva b2) (l' := [sv b2.m.pa b2.m.pn b2.m.pc, sv b2.m.ta b2.m.tn b2.m.tc, sv b2.sa b2.sn b2.sc, fl b2.film, fl b2.bend, sv b2.wa b2.wn b2.wc, fl b2.fall.x, fl b2.fall.y, fl b2.fall.z]) hS rfl rfl rfl rfl rfl rfl rfl rfl rfl rfl rfl rfl fun H hS => ?_
 refine E_nil ?_
 refine th_norm ?_
 refine AWp_seq ?_
 refine AWp_seq ?_
 refine AWp_E rfl ?_
 refine ed (sv v_a v_n v_c) rfl rfl (dv_move rfl) ?_
 refine ed (iv ((v_n : Nat) : Int)) rfl rfl (dv_len rfl rfl rfl rfl rfl) ?_
 refine ed (iv 0) rfl rfl (dv_move rfl) ?_
 refine E_nil ?_
 refine th_norm ?_
 refine AWp_block ?_
 obtain ⟨I8, hI8⟩ : ∃ I : Nat → Env → AH → Prop, ∀ m_ e_ Hl, I m_ e_ Hl = (∃ (i : Nat) (o : List (V3)), m_ = v_n - i ∧ AllE [(0, pt b_p b_o), (1, sv v_a v_n v_c), (2, fl k), (6, pt b1 0), (7, pt b7 0), (9, pt b_p b_o), (10, bva b2), (11, sv v_a v_n v_c), (12, iv ((v_n : Nat) : Int)), (13, iv ((i : Nat) : Int))] e_ ∧ SepL H0 [box b1 [sv none 0 0, sv none 0 0, sv none 0 0, fl 0, fl 0, sv none 0 0, fl 0, fl 0, fl 0] 43, sl encV 41 3 b2.m.pa b2.m.pc o, sl encR 53 1 b2.m.ta b2.m.tc b2.m.ts, rowsE 2 b2.m.ts, sl encS 116 4 b2.sa b2.sc b2.ss, sl encF 27 1 b2.wa b2.wc b2.ws, box b7 [sv b2.m.pa b2.m.pn b2.m.pc, sv b2.m.ta b2.m.tn b2.m.tc, sv b2.sa b2.sn b2.sc, fl b2.film, fl b2.bend, sv b2.wa b2.wn b2.wc, fl b2.fall.x, fl b2.fall.y, fl b2.fall.z] 43] Hl ∧ o.length = b2.m.pn ∧ (i ≤ v_n) ∧ (o = iter (moveAt v k) b.m.ps i)) := ⟨_, fun _ _ _ => rfl⟩
 refine AWp_loop I8 (v_n - (0)) ?_ ?_
 ·
  rw [hI8]
  refine ⟨0, b2.m.ps, rfl, (all_c rfl (all_c rfl (all_c rfl (all_c rfl (all_c rfl (all_c rfl (all_c rfl (all_c rfl (all_c rfl (all_c rfl all_n)))))))))), hS, h4.1, ?_, ?_⟩
  · omega
  · have hdd := h3; simp only [LB.d, LM.d, Bod.mk.injEq, Msh.mk.injEq] at hdd; exact hdd.1.1
 ·
  intro m9 _ H hl10
  rw [hI8] at hl10
  obtain ⟨i, o, hm11, he12, hS, ho_n, hi, ho⟩ := hl10
  obtain ⟨e13, rfl⟩ := he12.ex
  refine AWp_seq ?_
  refine AWp_E rfl ?_
  rcases Decidable.em (((i : Nat) : Int) < ((v_n : Nat) : Int)) with hc14 | hc14
  ·
   refine ed yes rfl rfl (dv_bin rfl rfl (bi_lss_t hc14)) ?_
   refine E_nil ?_
   refine th_norm ?_
   refine AWp_seq ?_
   refine AWp_cond (t := true) rfl (fun _ => ?_) nofun
   refine AWp_skip ?_
   refine th_norm ?_
   refine AWp_seq ?_
   refine AWp_block ?_
   refine AWp_seq ?_
   refine AWp_E rfl ?_
   refine ed (iv ((i : Nat) : Int)) rfl rfl (dv_move rfl) ?_
   refine ed (iv ((i : Nat) : Int)) rfl rfl (dv_assign rfl) ?_
   refine E_nil ?_
   refine th_norm ?_
   have hR := hS.pushes
   have hKb := hS.keep
   have hB := fun Hc (hc : Keep _ Hc) => hR [] Hc (.base hc)
   refine AWp_D0 rfl (by decide +kernel) fun hM => ?_
   refine wd (pt b7 0) rfl rfl (fun _ hc => dv_fieldAddr rfl rfl) ?_
   refine wd (pt b7 0) rfl rfl (fun _ hc => dv_fieldAddr rfl rfl) ?_
   refine wd (sv b2.m.pa b2.m.pn b2.m.pc) rfl rfl (fun _ hc => dv_load rfl (ld_box ((hB _ hc).box 6 rfl) rfl rfl rfl)) ?_
   refine wd (iv ((i : Nat) : Int)) rfl rfl (fun _ hc => dv_move rfl) ?_
   refine wd (pt b_p b_o) rfl rfl (fun _ hc => dv_move rfl) ?_
   refine wd (pt b_p b_o) rfl rfl (fun _ hc => dv_nilCheck rfl) ?_
   refine wd (pt b_p b_o) rfl rfl (fun _ hc => dv_fieldAddr rfl rfl) ?_
   refine wd (pt b_p b_o) rfl rfl (fun _ hc => dv_fieldAddr rfl rfl) ?_
   refine wd (sv b.m.pa b.m.pn b.m.pc) rfl rfl (fun _ hc => dv_load rfl (ld_pv (off := 0) (hbpv.keep (hKb.trans hc)) rfl rfl rfl)) ?_
   refine wd (iv ((i : Nat) : Int)) rfl rfl (fun _ hc => dv_move rfl) ?_
   obtain ⟨x15, hx15⟩ := get_el (xs := b.m.ps) (i := i) (by omega)
   refine wd (sp b.m.pa (i * 3)) rfl rfl (fun _ hc => dv_indexAddr (a := sv b.m.pa b.m.pn b.m.pc) (b := iv ((i : Nat) : Int)) rfl rfl (ix_sls (n := b.m.pn) (i := i) (hb_1_ps.keep (hKb.trans hc)) hx15 rfl rfl rfl (by omega))) ?_
   refine wd (va x15) rfl rfl (fun _ hc => dv_load rfl (ld_slsA (sz := 3) (m := 3) (ys := [fl x15.x, fl x15.y, fl x15.z]) (off := 0) (hb_1_ps.keep (hKb.trans hc)) hx15 (fun _ => rfl) rfl rfl (Nat.le_of_ble_eq_true rfl) rfl)) ?_
   refine wd (sv v_a v_n v_c) rfl rfl (fun _ hc => dv_move rfl) ?_
   refine wd (iv ((i : Nat) : Int)) rfl rfl (fun _ hc => dv_move rfl) ?_
   obtain ⟨x16, hx16⟩ := get_el (xs := v) (i := i) (by omega)
   refine wd (sp v_a (i * 3)) rfl rfl (fun _ hc => dv_indexAddr (a := sv v_a v_n v_c) (b := iv ((i : Nat) : Int)) rfl rfl (ix_sls (n := v_n) (i := i) (hv_s.keep (hKb.trans hc)) hx16 rfl rfl rfl (by omega))) ?_
   refine wd (va x16) rfl rfl (fun _ hc => dv_load rfl (ld_slsA (sz := 3) (m := 3) (ys := [fl x16.x, fl x16.y, fl x16.z]) (off := 0) (hv_s.keep (hKb.trans hc)) hx16 (fun _ => rfl) rfl rfl (Nat.le_of_ble_eq_true rfl) rfl)) ?_
   refine wd (fl k) rfl rfl (fun _ hc => dv_move rfl) ?_
   refine W_call (vs := [va x16, fl k]) rfl rfl rfl rfl rfl rfl rfl (l01Scale_ok x16 k _) ?_
   rintro _ H ⟨v17, rfl, rfl, hQ⟩
   have hM := hM.up hQ.keep
   refine ⟨hM.keep, ?_⟩
   refine W_call (vs := [va x15, .agg #[fl ((vscale x16 k).x), fl ((vscale x16 k).y), fl ((vscale x16 k).z)]]) rfl rfl rfl rfl rfl rfl rfl (l01Add_ok x15 (vscale x16 k) _) ?_
   rintro _ H ⟨v18, rfl, rfl, hQ⟩
   have hM := hM.up hQ.keep
   refine ⟨hM.keep, ?_⟩
   obtain ⟨x19, hx19⟩ := get_el (xs := o) (i := i) (by omega)
   refine wd (sp b2.m.pa (i * 3)) rfl rfl (fun _ hc => dv_indexAddr (a := sv b2.m.pa b2.m.pn b2.m.pc) (b := iv ((i : Nat) : Int)) rfl rfl (ix_sls (n := b2.m.pn) (i := i) ((hB _ hc).sls 1 rfl) hx19 rfl rfl rfl (by omega))) ?_
   have hS := hR _ _ hM
   refine D_storeS (k := 1) (i := i) (z' := (vadd x15 (vscale x16 k))) (off := 0) (yv := .agg #[fl ((vadd x15 (vscale x16 k)).x), fl ((vadd x15 (vscale x16 k)).y), fl ((vadd x15 (vscale x16 k)).z)]) hS rfl rfl rfl rfl rfl (fun _ => rfl) rfl rfl rfl hx19 rfl rfl rfl rfl fun H hS => ?_
   have hx20 := set_get (z := (vadd x15 (vscale x16 k))) hx19
   refine bl_norm ?_
   refine th_norm ?_
   refine AWp_E rfl ?_
   refine ed (iv ((i + 1 : Nat) : Int)) rfl rfl (dv_bin rfl rfl (bi_add (by omega))) ?_
   refine ed (iv ((i + 1 : Nat) : Int)) rfl rfl (dv_move rfl) ?_
   refine E_nil ?_
   refine loop_next (I := I8) (v_n - (i + 1)) (by rw [hm11]; omega) ?_
   rw [hI8]
   refine ⟨i + 1, o.set i (vadd x15 (vscale x16 k)), rfl, (all_c rfl (all_c rfl (all_c rfl (all_c rfl (all_c rfl (all_c rfl (all_c rfl (all_c rfl (all_c rfl (all_c rfl all_n)))))))))), hS, (by rw [List.length_set]; exact ho_n), ?_, ?_⟩
   · omega
   · exact moveAt_step ho hx15 hx16
  ·
   refine ed no rfl rfl (dv_bin rfl rfl (bi_lss_f hc14)) ?_
   refine E_nil ?_
   refine th_norm ?_
   refine AWp_seq ?_
   refine AWp_cond (t := false) rfl nofun (fun _ => ?_)
   refine AWp_exit (th_exit (th_exit (bl_exit (?_))))
   refine th_norm ?_
   refine AWp_seq ?_
   refine AWp_E rfl ?_
   refine ed (bva b2) rfl rfl (dv_load rfl (ld_boxA (n := 9) (hS.box 6 rfl) rfl rfl (Nat.le_of_ble_eq_true rfl) rfl)) ?_
   refine S_store (i := 0) (yv := bva b2) (l' := [sv b2.m.pa b2.m.pn b2.m.pc, sv b2.m.ta b2.m.tn b2.m.tc, sv b2.sa b2.sn b2.sc, fl b2.film, fl b2.bend, sv b2.wa b2.wn b2.wc, fl b2.fall.x, fl b2.fall.y, fl b2.fall.z]) hS rfl rfl rfl rfl rfl rfl rfl rfl rfl rfl rfl rfl fun H hS => ?_
   refine E_nil ?_
   refine th_norm ?_
   refine AWp_ret (?_)
   refine ret_of ?_
   refine readsRes_of (rs := [.cell 6 43]) (vs := [bva b2]) rfl (re_cons (re_cell (p := pt b1 0) rfl (ld_boxA (n := 9) (hS.box 0 rfl) rfl rfl (Nat.le_of_ble_eq_true rfl) rfl)) (re_nil)) rfl ?_
   refine ⟨⟨⟨b2.m.pa, b2.m.pc, b2.m.pn, o, b2.m.ta, b2.m.tc, b2.m.tn, b2.m.ts⟩, b2.sa, b2.sc, b2.sn, b2.ss, b2.film, b2.bend, b2.wa, b2.wc, b2.wn, b2.ws, b2.fall⟩, ?_, ?_, ?_, ?_, rfl, hS.pick [1, 2, 3, 4, 5] rfl⟩
   · have hii : i = v.length := by omega
     have hdd := h3
     simp only [LB.d, LM.d, Bod.mk.injEq, Msh.mk.injEq] at hdd
     simp only [movedD, LB.d, LM.d, Bod.mk.injEq, Msh.mk.injEq]
     rw [ho, hii]
     simp_all
   · exact ⟨ho_n, h4.2⟩
   · exact h5
   · exact h6
end Go.Ab

set_option maxRecDepth 100000
set_option maxHeartbeats 4000000
namespace Go.Ab
open Go.Proofs
theorem IsHeld_ok (b : LB) (held_a : Option Addr) (held_n held_c : Nat) (held : List (Int)) (H : AH) (hb : b.ok H) (hheld : VS H encI held_a held_n held) : ACalls Tryz.prog 93 [bva b, sv held_a held_n held_c] H
  (fun r H' => ((Bod.ok b.d ∧ heldP b.m.ps.length held) ∧ r = yes ∧ SepL H [] H') ∨ ((¬(Bod.ok b.d ∧ heldP b.m.ps.length held)) ∧ r = no ∧ SepL H [] H')) := by
 refine ACalls_of Tryz.func93 rfl (Nat.le_of_ble_eq_true rfl) ?_
 obtain ⟨H0, hH0⟩ : ∃ H0, H0 = H := ⟨_, rfl⟩
 have hS : SepL H0 [] H := hH0 ▸ SepL.refl H
 subst hH0
 obtain ⟨⟨hb_1_ps, hb_1_pn, hb_1_pb⟩, hb_1_ts, hb_1_tn, hb_1_tb⟩ := id hb.1
 obtain ⟨⟨hb_ss, hb_sn, hb_sb⟩, hb_ws, hb_wn, hb_wb⟩ := hb.2
 obtain ⟨hheld_s, hheld_n, hheld_b⟩ := id hheld
 refine AWp_seq ?_
 refine AWp_E rfl ?_
 refine S_box (l := [sv b.m.pa b.m.pn b.m.pc, sv b.m.ta b.m.tn b.m.tc, sv b.sa b.sn b.sc, fl b.film, fl b.bend, sv b.wa b.wn b.wc, fl b.fall.x, fl b.fall.y, fl b.fall.z]) hS rfl rfl rfl rfl rfl fun b1 H hS => ?_
 refine ed no rfl rfl (dv_assign rfl) ?_
 refine E_nil ?_
 refine th_norm ?_
 refine AWp_seq ?_
 refine AWp_seq ?_
 refine AWp_E rfl ?_
 refine ed (bva b) rfl rfl (dv_load rfl (ld_boxA (n := 9) (hS.box 0 rfl) rfl rfl (Nat.le_of_ble_eq_true rfl) rfl)) ?_
 refine E_call (vs := [bva b]) rfl rfl rfl rfl rfl rfl rfl (ValidBody_ok b _ (hb.keep hS.keep)) ?_
 rintro _ H (⟨h2, rfl, hQ⟩ | ⟨h3, rfl, hQ⟩)
 ·
  have hS := hS.up hQ.keep
  refine ed no rfl rfl (dv_un rfl rfl) ?_
  refine E_nil ?_
  refine th_norm ?_
  refine AWp_cond (t := false) rfl nofun (fun _ => ?_)
  refine AWp_skip ?_
  refine th_norm ?_
  refine AWp_seq ?_
  refine AWp_E rfl ?_
  refine ed (iv (-1)) rfl rfl (dv_assign rfl) ?_
  refine E_nil ?_
  refine th_norm ?_
  refine AWp_seq ?_
  refine AWp_seq ?_
  refine AWp_E rfl ?_
  refine ed (sv held_a held_n held_c) rfl rfl (dv_move rfl) ?_
  refine ed (iv ((held_n : Nat) : Int)) rfl rfl (dv_len rfl rfl rfl rfl rfl) ?_
  refine ed (iv 0) rfl rfl (dv_move rfl) ?_
  refine E_nil ?_
  refine th_norm ?_
  refine AWp_block ?_
  obtain ⟨I4, hI4⟩ : ∃ I : Nat → Env → AH → Prop, ∀ m_ e_ Hl, I m_ e_ Hl = (∃ (t4 : Bool) (last : Int) (i : Nat), m_ = held_n - i ∧ AllE [(0, bva b), (1, sv held_a held_n held_c), (2, pt b1 0), (4, .bool t4), (5, iv last), (8, bva b), (9, yes), (10, no), (11, sv held_a held_n held_c), (12, iv ((held_n : Nat) : Int)), (13, iv ((i : Nat) : Int))] e_ ∧ SepL H0 [box b1 [sv b.m.pa b.m.pn b.m.pc, sv b.m.ta b.m.tn b.m.tc, sv b.sa b.sn b.sc, fl b.film, fl b.bend, sv b.wa b.wn b.wc, fl b.fall.x, fl b.fall.y, fl b.fall.z] 43] Hl ∧ (i ≤ held_n) ∧ (heldJ b.m.ps.length held i) ∧ ((i = 0 ∧ last = -1) ∨ (0 < i ∧ held[i - 1]? = some last)) ∧ (-1 ≤ last ∧ last < 1048576)) := ⟨_, fun _ _ _ => rfl⟩
  refine AWp_loop I4 (held_n - (0)) ?_ ?_
  ·
   rw [hI4]
   refine ⟨false, -1, 0, rfl, (all_c rfl (all_c rfl (all_c rfl (all_c rfl (all_c rfl (all_c rfl (all_c rfl (all_c rfl (all_c rfl (all_c rfl (all_c rfl all_n))))))))))), hS, ?_, ?_, ?_, ?_⟩
   · omega
   · exact heldJ_zero _ _
   · exact .inl ⟨rfl, rfl⟩
   · omega
  ·
   intro m5 _ H hl6
   rw [hI4] at hl6
   obtain ⟨t4, last, i, hm7, he8, hS, hi, hJ, hlast, hlb⟩ := hl6
   obtain ⟨e9, rfl⟩ := he8.ex
   refine AWp_seq ?_
   refine AWp_E rfl ?_
   rcases Decidable.em (((i : Nat) : Int) < ((held_n : Nat) : Int)) with hc10 | hc10
   ·
    refine ed yes rfl rfl (dv_bin rfl rfl (bi_lss_t hc10)) ?_
    refine E_nil ?_
    refine th_norm ?_
    refine AWp_seq ?_
    refine AWp_cond (t := true) rfl (fun _ => ?_) nofun
    refine AWp_skip ?_
    refine th_norm ?_
    refine AWp_seq ?_
    refine AWp_block ?_
    refine AWp_seq ?_
    refine AWp_E rfl ?_
    obtain ⟨x11, hx11⟩ := get_el (xs := held) (i := i) (by omega)
    refine ed (sp held_a (i * 1)) rfl rfl (dv_indexAddr (a := sv held_a held_n held_c) (b := iv ((i : Nat) : Int)) rfl rfl (ix_sls (n := held_n) (i := i) (hheld_s.keep hS.keep) hx11 rfl rfl rfl (by omega))) ?_
    refine ed (iv x11) rfl rfl (dv_load rfl (ld_sls (sz := 1) (off := 0) (hheld_s.keep hS.keep) hx11 (fun _ => rfl) rfl rfl rfl)) ?_
    refine ed (iv x11) rfl rfl (dv_assign rfl) ?_
    refine E_nil ?_
    refine th_norm ?_
    refine AWp_seq ?_
    refine AWp_seq ?_
    refine AWp_E rfl ?_
    refine ed (iv x11) rfl rfl (dv_move rfl) ?_
    refine ed (iv last) rfl rfl (dv_move rfl) ?_
    refine ed (iv (last + 1)) rfl rfl (dv_bin rfl rfl (bi_add (by omega))) ?_
    refine ed (pt b1 0) rfl rfl (dv_fieldAddr rfl rfl) ?_
    refine ed (pt b1 0) rfl rfl (dv_fieldAddr rfl rfl) ?_
    refine ed (sv b.m.pa b.m.pn b.m.pc) rfl rfl (dv_load rfl (ld_box (hS.box 0 rfl) rfl rfl rfl)) ?_
    refine ed (iv ((b.m.pn : Nat) : Int)) rfl rfl (dv_len rfl rfl rfl rfl rfl) ?_
    refine ed (iv (((b.m.pn : Nat) : Int) - 1)) rfl rfl (dv_bin rfl rfl (bi_sub (by omega))) ?_
    refine E_call (vs := [iv x11, iv (last + 1), iv (((b.m.pn : Nat) : Int) - 1)]) rfl rfl rfl rfl rfl rfl rfl (within_ok x11 (last + 1) (((b.m.pn : Nat) : Int) - 1) _) ?_
    rintro _ H (⟨h12, rfl, hQ⟩ | ⟨h13, rfl, hQ⟩)
    ·
     have hS := hS.up hQ.keep
     refine ed no rfl rfl (dv_un rfl rfl) ?_
     refine E_nil ?_
     refine th_norm ?_
     refine AWp_cond (t := false) rfl nofun (fun _ => ?_)
     refine AWp_skip ?_
     refine th_norm ?_
     refine AWp_E rfl ?_
     refine ed (iv x11) rfl rfl (dv_move rfl) ?_
     refine ed (iv x11) rfl rfl (dv_assign rfl) ?_
     refine E_nil ?_
     refine bl_norm ?_
     refine th_norm ?_
     refine AWp_E rfl ?_
     refine ed (iv ((i + 1 : Nat) : Int)) rfl rfl (dv_bin rfl rfl (bi_add (by omega))) ?_
     refine ed (iv ((i + 1 : Nat) : Int)) rfl rfl (dv_move rfl) ?_
     refine E_nil ?_
     refine loop_next (I := I4) (held_n - (i + 1)) (by rw [hm7]; omega) ?_
     rw [hI4]
     refine ⟨t4, x11, i + 1, rfl, (all_c rfl (all_c rfl (all_c rfl (all_c rfl (all_c rfl (all_c rfl (all_c rfl (all_c rfl (all_c rfl (all_c rfl (all_c rfl all_n))))))))))), hS, ?_, ?_, ?_, ?_⟩
     · omega
     · refine heldJ_step hJ hx11 (by unfold inP; omega) fun j q hj hq => ?_
       subst hj
       rcases hlast with h1 | h1
       · omega
       · have h2 := h1.2
         rw [show j + 1 - 1 = j by omega, hq] at h2; injection h2 with h2; omega
     · exact .inr ⟨by omega, by simpa using hx11⟩
     · omega
    ·
     have hS := hS.up hQ.keep
     refine ed yes rfl rfl (dv_un rfl rfl) ?_
     refine E_nil ?_
     refine th_norm ?_
     refine AWp_cond (t := true) rfl (fun _ => ?_) nofun
     refine AWp_seq ?_
     refine AWp_E rfl ?_
     refine ed no rfl rfl (dv_assign rfl) ?_
     refine E_nil ?_
     refine th_norm ?_
     refine AWp_ret (th_ret (bl_ret (th_ret (th_ret (bl_ret (th_ret (?_)))))))
     refine ret_of ?_
     refine readsRes_of (rs := [.tmp 4]) (vs := [no]) rfl (re_cons (re_tmp rfl) (re_nil)) rfl ?_
     refine .inr (?_)
     refine ⟨?_, rfl, .base hS.keep⟩
     · intro hh
       refine heldP_no hx11 (fun h0 => ?_) hh.2
       unfold inP at h0
       rcases hlast with h1 | h1
       · omega
       · have h2 := h0.2 (i - 1) last (by omega) h1.2; omega
   ·
    refine ed no rfl rfl (dv_bin rfl rfl (bi_lss_f hc10)) ?_
    refine E_nil ?_
    refine th_norm ?_
    refine AWp_seq ?_
    refine AWp_cond (t := false) rfl nofun (fun _ => ?_)
    refine AWp_exit (th_exit (th_exit (bl_exit (?_))))
    refine th_norm ?_
    refine AWp_seq ?_
    refine AWp_E rfl ?_
    refine ed yes rfl rfl (dv_assign rfl) ?_
    refine E_nil ?_
    refine th_norm ?_
    refine AWp_ret (?_)
    refine ret_of ?_
    refine readsRes_of (rs := [.tmp 4]) (vs := [yes]) rfl (re_cons (re_tmp rfl) (re_nil)) rfl ?_
    refine .inl ?_
    refine ⟨?_, rfl, .base hS.keep⟩
    · have hii : i = held.length := by omega
      exact ⟨by assumption, by unfold heldP; rw [← hii]; exact hJ⟩
 ·
  have hS := hS.up hQ.keep
  refine ed yes rfl rfl (dv_un rfl rfl) ?_
  refine E_nil ?_
  refine th_norm ?_
  refine AWp_cond (t := true) rfl (fun _ => ?_) nofun
  refine AWp_seq ?_
  refine AWp_E rfl ?_
  refine ed no rfl rfl (dv_assign rfl) ?_
  refine E_nil ?_
  refine th_norm ?_
  refine AWp_ret (th_ret (?_))
  refine ret_of ?_
  refine readsRes_of (rs := [.tmp 4]) (vs := [no]) rfl (re_cons (re_tmp rfl) (re_nil)) rfl ?_
  refine .inr (?_)
  refine ⟨?_, rfl, .base hS.keep⟩
  · intro hh; simp_all
theorem areFor_ok (b : LB) (held_a : Option Addr) (held_n held_c : Nat) (held : List (Int)) (v_a : Option Addr) (v_n v_c : Nat) (v : List (V3)) (step : Nat) (H : AH) (hb : b.ok H) (hheld : VS H encI held_a held_n held) (hv : VS H encV v_a v_n v) : ACalls Tryz.prog 55 [bva b, sv held_a held_n held_c, sv v_a v_n v_c, fl step] H
  (fun r H' => (canP b.d held v.length step ∧ r = yes ∧ SepL H [] H') ∨ (¬(canP b.d held v.length step) ∧ r = no ∧ SepL H [] H')) := by
 refine ACalls_of Tryz.func55 rfl (Nat.le_of_ble_eq_true rfl) ?_
 obtain ⟨H0, hH0⟩ : ∃ H0, H0 = H := ⟨_, rfl⟩
 have hS : SepL H0 [] H := hH0 ▸ SepL.refl H
 subst hH0
 obtain ⟨⟨hb_1_ps, hb_1_pn, hb_1_pb⟩, hb_1_ts, hb_1_tn, hb_1_tb⟩ := id hb.1
 obtain ⟨⟨hb_ss, hb_sn, hb_sb⟩, hb_ws, hb_wn, hb_wb⟩ := hb.2
 obtain ⟨hheld_s, hheld_n, hheld_b⟩ := id hheld
 obtain ⟨hv_s, hv_n, hv_b⟩ := id hv
 refine AWp_seq ?_
 refine AWp_E rfl ?_
 refine S_box (l := [sv b.m.pa b.m.pn b.m.pc, sv b.m.ta b.m.tn b.m.tc, sv b.sa b.sn b.sc, fl b.film, fl b.bend, sv b.wa b.wn b.wc, fl b.fall.x, fl b.fall.y, fl b.fall.z]) hS rfl rfl rfl rfl rfl fun b1 H hS => ?_
 refine ed no rfl rfl (dv_assign rfl) ?_
 refine E_nil ?_
 refine th_norm ?_
 refine AWp_seq ?_
 refine AWp_E rfl ?_
 refine ed (bva b) rfl rfl (dv_load rfl (ld_boxA (n := 9) (hS.box 0 rfl) rfl rfl (Nat.le_of_ble_eq_true rfl) rfl)) ?_
 refine ed (sv held_a held_n held_c) rfl rfl (dv_move rfl) ?_
 refine E_call (vs := [bva b, sv held_a held_n held_c]) rfl rfl rfl rfl rfl rfl rfl (IsHeld_ok b held_a held_n held_c held _ (hb.keep hS.keep) (hheld.keep hS.keep)) ?_
 rintro _ H (⟨h2, rfl, hQ⟩ | ⟨h3, rfl, hQ⟩)
 ·
  have hS := hS.up hQ.keep
  refine ed yes rfl rfl (dv_move rfl) ?_
  refine ed (sv v_a v_n v_c) rfl rfl (dv_move rfl) ?_
  refine ed (iv ((v_n : Nat) : Int)) rfl rfl (dv_len rfl rfl rfl rfl rfl) ?_
  refine ed (pt b1 0) rfl rfl (dv_fieldAddr rfl rfl) ?_
  refine ed (pt b1 0) rfl rfl (dv_fieldAddr rfl rfl) ?_
  refine ed (sv b.m.pa b.m.pn b.m.pc) rfl rfl (dv_load rfl (ld_box (hS.box 0 rfl) rfl rfl rfl)) ?_
  refine ed (iv ((b.m.pn : Nat) : Int)) rfl rfl (dv_len rfl rfl rfl rfl rfl) ?_
  rcases Decidable.em (((v_n : Nat) : Int) = ((b.m.pn : Nat) : Int)) with hc4 | hc4
  ·
   refine ed yes rfl rfl (dv_bin rfl rfl (bi_eql_t hc4)) ?_
   refine ed yes rfl rfl (dv_pick (t := true) rfl rfl) ?_
   refine ed yes rfl rfl (dv_move rfl) ?_
   refine ed (fl step) rfl rfl (dv_move rfl) ?_
   refine E_call (vs := [fl step]) rfl rfl rfl rfl rfl rfl rfl (isOver_ok step _) ?_
   rintro _ H (⟨h5, rfl, hQ⟩ | ⟨h6, rfl, hQ⟩)
   ·
    have hS := hS.up hQ.keep
    refine ed yes rfl rfl (dv_pick (t := true) rfl rfl) ?_
    refine ed yes rfl rfl (dv_assign rfl) ?_
    refine E_nil ?_
    refine th_norm ?_
    refine AWp_ret (?_)
    refine ret_of ?_
    refine readsRes_of (rs := [.tmp 8]) (vs := [yes]) rfl (re_cons (re_tmp rfl) (re_nil)) rfl ?_
    refine .inl ?_
    refine ⟨?_, rfl, .base hS.keep⟩
    · exact ⟨h2.1, h2.2, by show v.length = b.m.ps.length; omega, h5⟩
   ·
    have hS := hS.up hQ.keep
    refine ed no rfl rfl (dv_pick (t := true) rfl rfl) ?_
    refine ed no rfl rfl (dv_assign rfl) ?_
    refine E_nil ?_
    refine th_norm ?_
    refine AWp_ret (?_)
    refine ret_of ?_
    refine readsRes_of (rs := [.tmp 8]) (vs := [no]) rfl (re_cons (re_tmp rfl) (re_nil)) rfl ?_
    refine .inr (?_)
    refine ⟨?_, rfl, .base hS.keep⟩
    · intro hh
      first | exact absurd hh.1 h6 | exact absurd hh.2.1 h6 | exact absurd hh.2.2.2 h6 | exact absurd ⟨hh.1, hh.2.1⟩ h6
  ·
   refine ed no rfl rfl (dv_bin rfl rfl (bi_eql_f hc4)) ?_
   refine ed no rfl rfl (dv_pick (t := true) rfl rfl) ?_
   refine ed no rfl rfl (dv_move rfl) ?_
   refine E_skip rfl rfl ?_
   refine E_skip rfl rfl ?_
   refine ed no rfl rfl (dv_pick (t := false) rfl rfl) ?_
   refine ed no rfl rfl (dv_assign rfl) ?_
   refine E_nil ?_
   refine th_norm ?_
   refine AWp_ret (?_)
   refine ret_of ?_
   refine readsRes_of (rs := [.tmp 8]) (vs := [no]) rfl (re_cons (re_tmp rfl) (re_nil)) rfl ?_
   refine .inr (?_)
   refine ⟨?_, rfl, .base hS.keep⟩
   · intro hh
     have h3 : v.length = b.m.ps.length := hh.2.2.1
     omega
 ·
  have hS := hS.up hQ.keep
  refine ed no rfl rfl (dv_move rfl) ?_
  refine E_skip rfl rfl ?_
  refine E_skip rfl rfl ?_
  refine E_skip rfl rfl ?_
  refine E_skip rfl rfl ?_
  refine E_skip rfl rfl ?_
  refine E_skip rfl rfl ?_
  refine E_skip rfl rfl ?_
  refine ed no rfl rfl (dv_pick (t := false) rfl rfl) ?_
  refine ed no rfl rfl (dv_move rfl) ?_
  refine E_skip rfl rfl ?_
  refine E_skip rfl rfl ?_
  refine ed no rfl rfl (dv_pick (t := false) rfl rfl) ?_
  refine ed no rfl rfl (dv_assign rfl) ?_
  refine E_nil ?_
  refine th_norm ?_
  refine AWp_ret (?_)
  refine ret_of ?_
  refine readsRes_of (rs := [.tmp 8]) (vs := [no]) rfl (re_cons (re_tmp rfl) (re_nil)) rfl ?_
  refine .inr (?_)
  refine ⟨?_, rfl, .base hS.keep⟩
  · intro hh
    first | exact absurd hh.1 h3 | exact absurd hh.2.1 h3 | exact absurd hh.2.2.2 h3 | exact absurd ⟨hh.1, hh.2.1⟩ h3
theorem moved_ok (b : LB) (v_a : Option Addr) (v_n v_c : Nat) (v : List (V3)) (k : Nat) (H : AH) (hb : b.ok H) (hv : VS H encV v_a v_n v) (hv0 : v.length = b.m.ps.length) : ACalls Tryz.prog 58 [bva b, sv v_a v_n v_c, fl k] H
  (fun r H' => ∃ (b_ : LB), b_.d = movedD b.d v k ∧ (b_.m.ps.length = b_.m.pn ∧ b_.m.ts.length = b_.m.tn) ∧ (∀ q ∈ b_.m.ts, q.xs.length ≤ 1048576) ∧ (b_.ss.length = b_.sn ∧ b_.ws.length = b_.wn) ∧ r = bva b_ ∧ SepL H [sl encV 41 3 b_.m.pa b_.m.pc b_.m.ps, sl encR 53 1 b_.m.ta b_.m.tc b_.m.ts, rowsE 2 b_.m.ts, sl encS 116 4 b_.sa b_.sc b_.ss, sl encF 27 1 b_.wa b_.wc b_.ws] H') := by
 refine ACalls_of Tryz.func58 rfl (Nat.le_of_ble_eq_true rfl) ?_
 obtain ⟨H0, hH0⟩ : ∃ H0, H0 = H := ⟨_, rfl⟩
 have hS : SepL H0 [] H := hH0 ▸ SepL.refl H
 subst hH0
 obtain ⟨⟨hb_1_ps, hb_1_pn, hb_1_pb⟩, hb_1_ts, hb_1_tn, hb_1_tb⟩ := id hb.1
 obtain ⟨⟨hb_ss, hb_sn, hb_sb⟩, hb_ws, hb_wn, hb_wb⟩ := hb.2
 obtain ⟨hv_s, hv_n, hv_b⟩ := id hv
 refine AWp_seq ?_
 refine AWp_E rfl ?_
 refine S_box (l := [sv b.m.pa b.m.pn b.m.pc, sv b.m.ta b.m.tn b.m.tc, sv b.sa b.sn b.sc, fl b.film, fl b.bend, sv b.wa b.wn b.wc, fl b.fall.x, fl b.fall.y, fl b.fall.z]) hS rfl rfl rfl rfl rfl fun b1 H hS => ?_
 refine S_box (l := [sv none 0 0, sv none 0 0, sv none 0 0, fl 0, fl 0, sv none 0 0, fl 0, fl 0, fl 0]) hS rfl rfl rfl rfl rfl fun b2 H hS => ?_
 refine E_nil ?_
 refine th_norm ?_
 refine AWp_seq ?_
 refine AWp_E rfl ?_
 refine ed (bva b) rfl rfl (dv_load rfl (ld_boxA (n := 9) (hS.box 0 rfl) rfl rfl (Nat.le_of_ble_eq_true rfl) rfl)) ?_
 refine E_call (vs := [bva b]) rfl rfl rfl rfl rfl rfl rfl (copyBody_ok b _ (hb.keep hS.keep)) ?_
 rintro _ H ⟨b3, h4, h5, h6, h7, rfl, hQ⟩
 have hdlh4 : b3.m.ps.length = b.m.ps.length := congrArg (fun d : Bod => d.m.ps.length) h4
 have hdth4 : (rxs b3.m.ts).length = (rxs b.m.ts).length := congrArg (fun d : Bod => d.m.ts.length) h4
 simp only [rxs, List.length_map] at hdth4
 have hdsh4 : b3.ss.length = b.ss.length := congrArg (fun d : Bod => d.ss.length) h4
 have hdwh4 : b3.ws.length = b.ws.length := congrArg (fun d : Bod => d.ws.length) h4
 have hS := hS.push hQ
 refine S_box (l := [sv none 0 0, sv none 0 0, sv none 0 0, fl 0, fl 0, sv none 0 0, fl 0, fl 0, fl 0]) hS rfl rfl rfl rfl rfl fun b8 H hS => ?_
 refine S_store (i := 7) (yv := bva b3) (l' := [sv b3.m.pa b3.m.pn b3.m.pc, sv b3.m.ta b3.m.tn b3.m.tc, sv b3.sa b3.sn b3.sc, fl b3.film, fl b3.bend, sv b3.wa b3.wn b3.wc, fl b3.fall.x, fl b3.fall.y, fl b3.fall.z]) hS rfl rfl rfl rfl rfl rfl rfl rfl rfl rfl rfl rfl fun H hS => ?_
 refine E_nil ?_
 refine th_norm ?_
 refine AWp_seq ?_
 refine AWp_seq ?_
 refine AWp_E rfl ?_
 refine ed (sv v_a v_n v_c) rfl rfl (dv_move rfl) ?_
 refine ed (iv ((v_n : Nat) : Int)) rfl rfl (dv_len rfl rfl rfl rfl rfl) ?_
 refine ed (iv 0) rfl rfl (dv_move rfl) ?_
 refine E_nil ?_
 refine th_norm ?_
 refine AWp_block ?_
 obtain ⟨I9, hI9⟩ : ∃ I : Nat → Env → AH → Prop, ∀ m_ e_ Hl, I m_ e_ Hl = (∃ (i : Nat) (o : List (V3)), m_ = v_n - i ∧ AllE [(0, bva b), (1, sv v_a v_n v_c), (2, fl k), (3, pt b1 0), (6, pt b2 0), (7, pt b8 0), (10, bva b), (11, bva b3), (12, sv v_a v_n v_c), (13, iv ((v_n : Nat) : Int)), (14, iv ((i : Nat) : Int))] e_ ∧ SepL H0 [box b1 [sv b.m.pa b.m.pn b.m.pc, sv b.m.ta b.m.tn b.m.tc, sv b.sa b.sn b.sc, fl b.film, fl b.bend, sv b.wa b.wn b.wc, fl b.fall.x, fl b.fall.y, fl b.fall.z] 43, box b2 [sv none 0 0, sv none 0 0, sv none 0 0, fl 0, fl 0, sv none 0 0, fl 0, fl 0, fl 0] 43, sl encV 41 3 b3.m.pa b3.m.pc o, sl encR 53 1 b3.m.ta b3.m.tc b3.m.ts, rowsE 2 b3.m.ts, sl encS 116 4 b3.sa b3.sc b3.ss, sl encF 27 1 b3.wa b3.wc b3.ws, box b8 [sv b3.m.pa b3.m.pn b3.m.pc, sv b3.m.ta b3.m.tn b3.m.tc, sv b3.sa b3.sn b3.sc, fl b3.film, fl b3.bend, sv b3.wa b3.wn b3.wc, fl b3.fall.x, fl b3.fall.y, fl b3.fall.z] 43] Hl ∧ o.length = b3.m.pn ∧ (i ≤ v_n) ∧ (o = iter (moveAt v k) b.m.ps i)) := ⟨_, fun _ _ _ => rfl⟩
 refine AWp_loop I9 (v_n - (0)) ?_ ?_
 ·
  rw [hI9]
  refine ⟨0, b3.m.ps, rfl, (all_c rfl (all_c rfl (all_c rfl (all_c rfl (all_c rfl (all_c rfl (all_c rfl (all_c rfl (all_c rfl (all_c rfl (all_c rfl all_n))))))))))), hS, h5.1, ?_, ?_⟩
  · omega
  · have hdd := h4; simp only [LB.d, LM.d, Bod.mk.injEq, Msh.mk.injEq] at hdd; exact hdd.1.1
 ·
  intro m10 _ H hl11
  rw [hI9] at hl11
  obtain ⟨i, o, hm12, he13, hS, ho_n, hi, ho⟩ := hl11
  obtain ⟨e14, rfl⟩ := he13.ex
  refine AWp_seq ?_
  refine AWp_E rfl ?_
  rcases Decidable.em (((i : Nat) : Int) < ((v_n : Nat) : Int)) with hc15 | hc15
  ·
   refine ed yes rfl rfl (dv_bin rfl rfl (bi_lss_t hc15)) ?_
   refine E_nil ?_
   refine th_norm ?_
   refine AWp_seq ?_
   refine AWp_cond (t := true) rfl (fun _ => ?_) nofun
   refine AWp_skip ?_
   refine th_norm ?_
   refine AWp_seq ?_
   refine AWp_block ?_
   refine AWp_seq ?_
   refine AWp_E rfl ?_
   refine ed (iv ((i : Nat) : Int)) rfl rfl (dv_move rfl) ?_
   obtain ⟨x16, hx16⟩ := get_el (xs := v) (i := i) (by omega)
   refine ed (sp v_a (i * 3)) rfl rfl (dv_indexAddr (a := sv v_a v_n v_c) (b := iv ((i : Nat) : Int)) rfl rfl (ix_sls (n := v_n) (i := i) (hv_s.keep hS.keep) hx16 rfl rfl rfl (by omega))) ?_
   refine ed (va x16) rfl rfl (dv_load rfl (ld_slsA (sz := 3) (m := 3) (ys := [fl x16.x, fl x16.y, fl x16.z]) (off := 0) (hv_s.keep hS.keep) hx16 (fun _ => rfl) rfl rfl (Nat.le_of_ble_eq_true rfl) rfl)) ?_
   refine S_box (l := [fl 0, fl 0, fl 0]) hS rfl rfl rfl rfl rfl fun b17 H hS => ?_
   refine ed (iv ((i : Nat) : Int)) rfl rfl (dv_assign rfl) ?_
   refine S_store (i := 8) (yv := va x16) (l' := [fl x16.x, fl x16.y, fl x16.z]) hS rfl rfl rfl rfl rfl rfl rfl rfl rfl rfl rfl rfl fun H hS => ?_
   refine E_nil ?_
   refine th_norm ?_
   have hR := hS.pushes
   have hKb := hS.keep
   have hB := fun Hc (hc : Keep _ Hc) => hR [] Hc (.base hc)
   refine AWp_D0 rfl (by decide +kernel) fun hM => ?_
   refine wd (pt b8 0) rfl rfl (fun _ hc => dv_fieldAddr rfl rfl) ?_
   refine wd (pt b8 0) rfl rfl (fun _ hc => dv_fieldAddr rfl rfl) ?_
   refine wd (sv b3.m.pa b3.m.pn b3.m.pc) rfl rfl (fun _ hc => dv_load rfl (ld_box ((hB _ hc).box 7 rfl) rfl rfl rfl)) ?_
   refine wd (iv ((i : Nat) : Int)) rfl rfl (fun _ hc => dv_move rfl) ?_
   refine wd (pt b8 0) rfl rfl (fun _ hc => dv_fieldAddr rfl rfl) ?_
   refine wd (pt b8 0) rfl rfl (fun _ hc => dv_fieldAddr rfl rfl) ?_
   refine wd (sv b3.m.pa b3.m.pn b3.m.pc) rfl rfl (fun _ hc => dv_load rfl (ld_box ((hB _ hc).box 7 rfl) rfl rfl rfl)) ?_
   refine wd (iv ((i : Nat) : Int)) rfl rfl (fun _ hc => dv_move rfl) ?_
   obtain ⟨x18, hx18⟩ := get_el (xs := o) (i := i) (by omega)
   refine wd (sp b3.m.pa (i * 3)) rfl rfl (fun _ hc => dv_indexAddr (a := sv b3.m.pa b3.m.pn b3.m.pc) (b := iv ((i : Nat) : Int)) rfl rfl (ix_sls (n := b3.m.pn) (i := i) ((hB _ hc).sls 2 rfl) hx18 rfl rfl rfl (by omega))) ?_
   refine wd (va x18) rfl rfl (fun _ hc => dv_load rfl (ld_slsA (sz := 3) (m := 3) (ys := [fl x18.x, fl x18.y, fl x18.z]) (off := 0) ((hB _ hc).sls 2 rfl) hx18 (fun _ => rfl) rfl rfl (Nat.le_of_ble_eq_true rfl) rfl)) ?_
   refine wd (va x16) rfl rfl (fun _ hc => dv_load rfl (ld_boxA (n := 3) ((hB _ hc).box 8 rfl) rfl rfl (Nat.le_of_ble_eq_true rfl) rfl)) ?_
   refine wd (fl k) rfl rfl (fun _ hc => dv_move rfl) ?_
   refine W_call (vs := [va x16, fl k]) rfl rfl rfl rfl rfl rfl rfl (ScaleVector_ok x16 k _) ?_
   rintro _ H ⟨v19, rfl, rfl, hQ⟩
   have hM := hM.up hQ.keep
   refine ⟨hM.keep, ?_⟩
   refine W_call (vs := [va x18, .agg #[fl ((vscale x16 k).x), fl ((vscale x16 k).y), fl ((vscale x16 k).z)]]) rfl rfl rfl rfl rfl rfl rfl (AddVectors_ok x18 (vscale x16 k) _) ?_
   rintro _ H ⟨v20, rfl, rfl, hQ⟩
   have hM := hM.up hQ.keep
   refine ⟨hM.keep, ?_⟩
   refine wd (sp b3.m.pa (i * 3)) rfl rfl (fun _ hc => dv_indexAddr (a := sv b3.m.pa b3.m.pn b3.m.pc) (b := iv ((i : Nat) : Int)) rfl rfl (ix_sls (n := b3.m.pn) (i := i) ((hB _ hc).sls 2 rfl) hx18 rfl rfl rfl (by omega))) ?_
   have hS := hR _ _ hM
   refine D_storeS (k := 2) (i := i) (z' := (vadd x18 (vscale x16 k))) (off := 0) (yv := .agg #[fl ((vadd x18 (vscale x16 k)).x), fl ((vadd x18 (vscale x16 k)).y), fl ((vadd x18 (vscale x16 k)).z)]) hS rfl rfl rfl rfl rfl (fun _ => rfl) rfl rfl rfl hx18 rfl rfl rfl rfl fun H hS => ?_
   have hx21 := set_get (z := (vadd x18 (vscale x16 k))) hx18
   refine bl_norm ?_
   refine th_norm ?_
   refine AWp_E rfl ?_
   refine ed (iv ((i + 1 : Nat) : Int)) rfl rfl (dv_bin rfl rfl (bi_add (by omega))) ?_
   refine ed (iv ((i + 1 : Nat) : Int)) rfl rfl (dv_move rfl) ?_
   refine E_nil ?_
   refine loop_next (I := I9) (v_n - (i + 1)) (by rw [hm12]; omega) ?_
   rw [hI9]
   refine ⟨i + 1, o.set i (vadd x18 (vscale x16 k)), rfl, (all_c rfl (all_c rfl (all_c rfl (all_c rfl (all_c rfl (all_c rfl (all_c rfl (all_c rfl (all_c rfl (all_c rfl (all_c rfl all_n))))))))))), (hS.pick [0, 1, 2, 3, 4, 5, 6, 7] rfl), (by rw [List.length_set]; exact ho_n), ?_, ?_⟩
   · omega
   · exact moveAt_step ho (by rw [← moved_same (v := v) (k := k) b.m.ps (Nat.le_refl i), ← ho]; exact hx18) hx16
  ·
   refine ed no rfl rfl (dv_bin rfl rfl (bi_lss_f hc15)) ?_
   refine E_nil ?_
   refine th_norm ?_
   refine AWp_seq ?_
   refine AWp_cond (t := false) rfl nofun (fun _ => ?_)
   refine AWp_exit (th_exit (th_exit (bl_exit (?_))))
   refine th_norm ?_
   refine AWp_seq ?_
   refine AWp_E rfl ?_
   refine ed (bva b3) rfl rfl (dv_load rfl (ld_boxA (n := 9) (hS.box 7 rfl) rfl rfl (Nat.le_of_ble_eq_true rfl) rfl)) ?_
   refine S_store (i := 1) (yv := bva b3) (l' := [sv b3.m.pa b3.m.pn b3.m.pc, sv b3.m.ta b3.m.tn b3.m.tc, sv b3.sa b3.sn b3.sc, fl b3.film, fl b3.bend, sv b3.wa b3.wn b3.wc, fl b3.fall.x, fl b3.fall.y, fl b3.fall.z]) hS rfl rfl rfl rfl rfl rfl rfl rfl rfl rfl rfl rfl fun H hS => ?_
   refine E_nil ?_
   refine th_norm ?_
   refine AWp_ret (?_)
   refine ret_of ?_
   refine readsRes_of (rs := [.cell 6 43]) (vs := [bva b3]) rfl (re_cons (re_cell (p := pt b2 0) rfl (ld_boxA (n := 9) (hS.box 1 rfl) rfl rfl (Nat.le_of_ble_eq_true rfl) rfl)) (re_nil)) rfl ?_
   refine ⟨⟨⟨b3.m.pa, b3.m.pc, b3.m.pn, o, b3.m.ta, b3.m.tc, b3.m.tn, b3.m.ts⟩, b3.sa, b3.sc, b3.sn, b3.ss, b3.film, b3.bend, b3.wa, b3.wc, b3.wn, b3.ws, b3.fall⟩, ?_, ?_, ?_, ?_, rfl, hS.pick [2, 3, 4, 5, 6] rfl⟩
   · have hii : i = v.length := by omega
     have hdd := h4
     simp only [LB.d, LM.d, Bod.mk.injEq, Msh.mk.injEq] at hdd
     simp only [movedD, LB.d, LM.d, Bod.mk.injEq, Msh.mk.injEq]
     rw [ho, hii]
     simp_all
   · exact ⟨ho_n, h5.2⟩
   · exact h6
   · exact h7
end Go.Ab

set_option maxRecDepth 100000
set_option maxHeartbeats 4000000
namespace Go.Ab
open Go.Proofs
end Go.Ab

set_option maxRecDepth 100000
set_option maxHeartbeats 4000000
namespace Go.Ab
open Go.Proofs
end Go.Ab

/- Walks through functions of the program: what each computes, told over that view of memory; each with the conditions that it tells. -/
import Derived.Test.YtpiidmgenkjiiaaGreatProg
import Derived.Test.YtpiidmgenkjiiaaGreatWd
import Derived.Test.YtpiidmgenkjiiaaGreatVb
import Derived.Test.YtpiidmgenkjiiaaGreatWe
set_option maxRecDepth 100000
set_option maxHeartbeats 4000000
namespace Go.Ab
open Go.Proofs
theorem l00Rises_ok (list_a : Option Addr) (list_n list_c : Nat) (list : List (Int)) (low : Int) (high : Int) (n : Nat) (H : AH) (hlist : VS H encI list_a list_n list) (hlo : low = 0) (hhi : high = (n : Int) - 1) (hnb : n ≤ 1048576) : ACalls Tryz.prog 115 [sv list_a list_n list_c, iv low, iv high] H
  (fun r H' => (heldP n list ∧ r = yes ∧ SepL H [] H') ∨ (¬(heldP n list) ∧ r = no ∧ SepL H [] H')) := by
 refine ACalls_of Tryz.func115 rfl (Nat.le_of_ble_eq_true rfl) ?_
 obtain ⟨H0, hH0⟩ : ∃ H0, H0 = H := ⟨_, rfl⟩
 have hS : SepL H0 [] H := hH0 ▸ SepL.refl H
 subst hH0
 obtain ⟨hlist_s, hlist_n, hlist_b⟩ := id hlist
 refine AWp_seq ?_
 refine AWp_E rfl ?_
 refine ed no rfl rfl (dv_assign rfl) ?_
 refine E_nil ?_
 refine th_norm ?_
 refine AWp_seq ?_
 refine AWp_seq ?_
 refine AWp_E rfl ?_
 refine ed (iv 0) rfl rfl (dv_assign rfl) ?_
 refine E_nil ?_
 refine th_norm ?_
 refine AWp_block ?_
 obtain ⟨I1, hI1⟩ : ∃ I : Nat → Env → AH → Prop, ∀ m_ e_ Hl, I m_ e_ Hl = (∃ (t6 : Bool) (i : Nat), m_ = list_n - i ∧ AllE [(0, sv list_a list_n list_c), (1, iv low), (2, iv high), (6, .bool t6), (7, iv ((i : Nat) : Int))] e_ ∧ SepL H0 [] Hl ∧ (i ≤ list_n) ∧ (heldJ n list i)) := ⟨_, fun _ _ _ => rfl⟩
 refine AWp_loop I1 (list_n - (0)) ?_ ?_
 ·
  rw [hI1]
  refine ⟨false, 0, rfl, (all_c rfl (all_c rfl (all_c rfl (all_c rfl (all_c rfl all_n))))), hS, ?_, ?_⟩
  · omega
  · exact heldJ_zero _ _
 ·
  intro m2 _ H hl3
  rw [hI1] at hl3
  obtain ⟨t6, i, hm4, he5, hS, hi, hJ⟩ := hl3
  obtain ⟨e6, rfl⟩ := he5.ex
  refine AWp_seq ?_
  refine AWp_seq ?_
  refine AWp_E rfl ?_
  refine ed (iv ((i : Nat) : Int)) rfl rfl (dv_move rfl) ?_
  refine ed (sv list_a list_n list_c) rfl rfl (dv_move rfl) ?_
  refine ed (iv ((list_n : Nat) : Int)) rfl rfl (dv_len rfl rfl rfl rfl rfl) ?_
  rcases Decidable.em (((i : Nat) : Int) < ((list_n : Nat) : Int)) with hc7 | hc7
  ·
   refine ed yes rfl rfl (dv_bin rfl rfl (bi_lss_t hc7)) ?_
   refine E_nil ?_
   refine th_norm ?_
   refine AWp_cond (t := true) rfl (fun _ => ?_) nofun
   refine AWp_skip ?_
   refine th_norm ?_
   refine AWp_seq ?_
   refine AWp_block ?_
   refine AWp_seq ?_
   have hR := hS.pushes
   have hKb := hS.keep
   have hB := fun Hc (hc : Keep _ Hc) => hR [] Hc (.base hc)
   refine AWp_D0 rfl (by decide +kernel) fun hM => ?_
   refine wd (sv list_a list_n list_c) rfl rfl (fun _ hc => dv_move rfl) ?_
   refine wd (iv ((i : Nat) : Int)) rfl rfl (fun _ hc => dv_move rfl) ?_
   obtain ⟨x8, hx8⟩ := get_el (xs := list) (i := i) (by omega)
   refine wd (sp list_a (i * 1)) rfl rfl (fun _ hc => dv_indexAddr (a := sv list_a list_n list_c) (b := iv ((i : Nat) : Int)) rfl rfl (ix_sls (n := list_n) (i := i) (hlist_s.keep (hKb.trans hc)) hx8 rfl rfl rfl (by omega))) ?_
   refine wd (iv x8) rfl rfl (fun _ hc => dv_load rfl (ld_sls (sz := 1) (off := 0) (hlist_s.keep (hKb.trans hc)) hx8 (fun _ => rfl) rfl rfl rfl)) ?_
   refine wd (iv low) rfl rfl (fun _ hc => dv_move rfl) ?_
   refine wd (iv high) rfl rfl (fun _ hc => dv_move rfl) ?_
   refine W_call (vs := [iv x8, iv low, iv high]) rfl rfl rfl rfl rfl rfl rfl (l00In_ok x8 low high _) ?_
   rintro _ H (⟨h9, rfl, hQ⟩ | ⟨h10, rfl, hQ⟩)
   ·
    have hM := hM.up hQ.keep
    refine ⟨hM.keep, ?_⟩
    refine wd no rfl rfl (fun _ hc => dv_un rfl rfl) ?_
    refine wd no rfl rfl (fun _ hc => dv_move rfl) ?_
    refine wd (iv ((i : Nat) : Int)) rfl rfl (fun _ hc => dv_move rfl) ?_
    rcases Decidable.em ((0 : Int) < ((i : Nat) : Int)) with hc11 | hc11
    ·
     refine wd yes rfl rfl (fun _ hc => dv_bin rfl rfl (bi_gtr_t hc11)) ?_
     refine wd yes rfl rfl (fun _ hc => dv_move rfl) ?_
     refine wd (sv list_a list_n list_c) rfl rfl (fun _ hc => dv_move rfl) ?_
     refine wd (iv ((i : Nat) : Int)) rfl rfl (fun _ hc => dv_move rfl) ?_
     refine wd (iv (((i : Nat) : Int) - 1)) rfl rfl (fun _ hc => dv_bin rfl rfl (bi_sub (by omega))) ?_
     obtain ⟨x12, hx12⟩ := get_el (xs := list) (i := (((i : Nat) : Int) - 1).toNat) (by omega)
     refine wd (sp list_a (((((i : Nat) : Int) - 1).toNat) * 1)) rfl rfl (fun _ hc => dv_indexAddr (a := sv list_a list_n list_c) (b := iv (((i : Nat) : Int) - 1)) rfl rfl (ix_sls (n := list_n) (i := ((((i : Nat) : Int) - 1).toNat)) (hlist_s.keep (hKb.trans hc)) hx12 rfl rfl (by omega) (by omega))) ?_
     refine wd (iv x12) rfl rfl (fun _ hc => dv_load rfl (ld_sls (sz := 1) (off := 0) (hlist_s.keep (hKb.trans hc)) hx12 (fun _ => rfl) rfl rfl rfl)) ?_
     refine wd (sv list_a list_n list_c) rfl rfl (fun _ hc => dv_move rfl) ?_
     refine wd (iv ((i : Nat) : Int)) rfl rfl (fun _ hc => dv_move rfl) ?_
     refine wd (sp list_a (i * 1)) rfl rfl (fun _ hc => dv_indexAddr (a := sv list_a list_n list_c) (b := iv ((i : Nat) : Int)) rfl rfl (ix_sls (n := list_n) (i := i) (hlist_s.keep (hKb.trans hc)) hx8 rfl rfl rfl (by omega))) ?_
     refine wd (iv x8) rfl rfl (fun _ hc => dv_load rfl (ld_sls (sz := 1) (off := 0) (hlist_s.keep (hKb.trans hc)) hx8 (fun _ => rfl) rfl rfl rfl)) ?_
     rcases Decidable.em ((x8 : Int) ≤ x12) with hc13 | hc13
     ·
      refine wd yes rfl rfl (fun _ hc => dv_bin rfl rfl (bi_geq_t hc13)) ?_
      refine wd yes rfl rfl (fun _ hc => dv_pick (t := true) rfl rfl) ?_
      refine wd yes rfl rfl (fun _ hc => dv_pick (t := false) rfl rfl) ?_
      have hS := hR _ _ hM
      refine W_nil ?_
      refine th_norm ?_
      refine AWp_cond (t := true) rfl (fun _ => ?_) nofun
      refine AWp_seq ?_
      refine AWp_E rfl ?_
      refine ed no rfl rfl (dv_assign rfl) ?_
      refine E_nil ?_
      refine th_norm ?_
      refine AWp_ret (bl_ret (th_ret (th_ret (bl_ret (th_ret (?_))))))
      refine ret_of ?_
      refine readsRes_of (rs := [.tmp 6]) (vs := [no]) rfl (re_cons (re_tmp rfl) (re_nil)) rfl ?_
      refine .inr (?_)
      refine ⟨?_, rfl, .base hS.keep⟩
      · refine heldP_no hx8 fun hh => ?_
        unfold inP at hh
        have hy := hx12
        have h2 := hh.2 (i - 1) x12 (by omega) (by rw [show i - 1 = (((i : Nat) : Int) - 1).toNat by omega]; exact hy)
        omega
     ·
      refine wd no rfl rfl (fun _ hc => dv_bin rfl rfl (bi_geq_f hc13)) ?_
      refine wd no rfl rfl (fun _ hc => dv_pick (t := true) rfl rfl) ?_
      refine wd no rfl rfl (fun _ hc => dv_pick (t := false) rfl rfl) ?_
      have hS := hR _ _ hM
      refine W_nil ?_
      refine th_norm ?_
      refine AWp_cond (t := false) rfl nofun (fun _ => ?_)
      refine AWp_skip ?_
      refine bl_norm ?_
      refine th_norm ?_
      refine AWp_E rfl ?_
      refine ed (iv ((i : Nat) : Int)) rfl rfl (dv_move rfl) ?_
      refine ed (iv ((i + 1 : Nat) : Int)) rfl rfl (dv_bin rfl rfl (bi_add (by omega))) ?_
      refine ed (iv ((i + 1 : Nat) : Int)) rfl rfl (dv_assign rfl) ?_
      refine E_nil ?_
      refine loop_next (I := I1) (list_n - (i + 1)) (by rw [hm4]; omega) ?_
      rw [hI1]
      refine ⟨t6, i + 1, rfl, (all_c rfl (all_c rfl (all_c rfl (all_c rfl (all_c rfl all_n))))), hS, ?_, ?_⟩
      · omega
      · refine heldJ_step hJ hx8 (by unfold inP; omega) fun j q hj hq => ?_
        subst hj
        have hy := hx12
        rw [show ((((j + 1 : Nat) : Int)) - 1).toNat = j by omega] at hy
        rw [hq] at hy; injection hy with hy; omega
    ·
     refine wd no rfl rfl (fun _ hc => dv_bin rfl rfl (bi_gtr_f hc11)) ?_
     refine wd no rfl rfl (fun _ hc => dv_move rfl) ?_
     refine W_skip rfl rfl ?_
     refine W_skip rfl rfl ?_
     refine W_skip rfl rfl ?_
     refine W_skip rfl rfl ?_
     refine W_skip rfl rfl ?_
     refine W_skip rfl rfl ?_
     refine W_skip rfl rfl ?_
     refine W_skip rfl rfl ?_
     refine W_skip rfl rfl ?_
     refine W_skip rfl rfl ?_
     refine wd no rfl rfl (fun _ hc => dv_pick (t := false) rfl rfl) ?_
     refine wd no rfl rfl (fun _ hc => dv_pick (t := false) rfl rfl) ?_
     have hS := hR _ _ hM
     refine W_nil ?_
     refine th_norm ?_
     refine AWp_cond (t := false) rfl nofun (fun _ => ?_)
     refine AWp_skip ?_
     refine bl_norm ?_
     refine th_norm ?_
     refine AWp_E rfl ?_
     refine ed (iv ((i : Nat) : Int)) rfl rfl (dv_move rfl) ?_
     refine ed (iv ((i + 1 : Nat) : Int)) rfl rfl (dv_bin rfl rfl (bi_add (by omega))) ?_
     refine ed (iv ((i + 1 : Nat) : Int)) rfl rfl (dv_assign rfl) ?_
     refine E_nil ?_
     refine loop_next (I := I1) (list_n - (i + 1)) (by rw [hm4]; omega) ?_
     rw [hI1]
     refine ⟨t6, i + 1, rfl, (all_c rfl (all_c rfl (all_c rfl (all_c rfl (all_c rfl all_n))))), hS, ?_, ?_⟩
     · omega
     · refine heldJ_step hJ hx8 (by unfold inP; omega) fun j q hj hq => ?_
       subst hj
       exfalso; omega
   ·
    have hM := hM.up hQ.keep
    refine ⟨hM.keep, ?_⟩
    refine wd yes rfl rfl (fun _ hc => dv_un rfl rfl) ?_
    refine wd yes rfl rfl (fun _ hc => dv_move rfl) ?_
    refine W_skip rfl rfl ?_
    refine W_skip rfl rfl ?_
    refine W_skip rfl rfl ?_
    refine W_skip rfl rfl ?_
    refine W_skip rfl rfl ?_
    refine W_skip rfl rfl ?_
    refine W_skip rfl rfl ?_
    refine W_skip rfl rfl ?_
    refine W_skip rfl rfl ?_
    refine W_skip rfl rfl ?_
    refine W_skip rfl rfl ?_
    refine W_skip rfl rfl ?_
    refine W_skip rfl rfl ?_
    refine W_skip rfl rfl ?_
    refine wd yes rfl rfl (fun _ hc => dv_pick (t := true) rfl rfl) ?_
    have hS := hR _ _ hM
    refine W_nil ?_
    refine th_norm ?_
    refine AWp_cond (t := true) rfl (fun _ => ?_) nofun
    refine AWp_seq ?_
    refine AWp_E rfl ?_
    refine ed no rfl rfl (dv_assign rfl) ?_
    refine E_nil ?_
    refine th_norm ?_
    refine AWp_ret (bl_ret (th_ret (th_ret (bl_ret (th_ret (?_))))))
    refine ret_of ?_
    refine readsRes_of (rs := [.tmp 6]) (vs := [no]) rfl (re_cons (re_tmp rfl) (re_nil)) rfl ?_
    refine .inr (?_)
    refine ⟨?_, rfl, .base hS.keep⟩
    · refine heldP_no hx8 fun hh => ?_
      unfold inP at hh
      omega
  ·
   refine ed no rfl rfl (dv_bin rfl rfl (bi_lss_f hc7)) ?_
   refine E_nil ?_
   refine th_norm ?_
   refine AWp_cond (t := false) rfl nofun (fun _ => ?_)
   refine AWp_exit (th_exit (th_exit (bl_exit (?_))))
   refine th_norm ?_
   refine AWp_seq ?_
   refine AWp_E rfl ?_
   refine ed yes rfl rfl (dv_assign rfl) ?_
   refine E_nil ?_
   refine th_norm ?_
   refine AWp_ret (?_)
   refine ret_of ?_
   refine readsRes_of (rs := [.tmp 6]) (vs := [yes]) rfl (re_cons (re_tmp rfl) (re_nil)) rfl ?_
   refine .inl ?_
   refine ⟨?_, rfl, .base hS.keep⟩
   · have hii : i = list.length := by omega
     unfold heldP; rw [← hii]; exact hJ
theorem l05Held_ok (b_p b_o : Nat) (b : LB) (held_a : Option Addr) (held_n held_c : Nat) (held : List (Int)) (H : AH) (hbpv : PV H b_p b_o b.v) (hb : b.ok H) (hheld : VS H encI held_a held_n held) : ACalls Tryz.prog 85 [pt b_p b_o, sv held_a held_n held_c] H
  (fun r H' => (heldP b.m.ps.length held ∧ r = yes ∧ SepL H [] H') ∨ (¬(heldP b.m.ps.length held) ∧ r = no ∧ SepL H [] H')) := by
 refine ACalls_of Tryz.func85 rfl (Nat.le_of_ble_eq_true rfl) ?_
 obtain ⟨H0, hH0⟩ : ∃ H0, H0 = H := ⟨_, rfl⟩
 have hS : SepL H0 [] H := hH0 ▸ SepL.refl H
 subst hH0
 obtain ⟨⟨hb_1_ps, hb_1_pn, hb_1_pb⟩, hb_1_ts, hb_1_tn, hb_1_tb⟩ := id hb.1
 obtain ⟨⟨hb_ss, hb_sn, hb_sb⟩, hb_ws, hb_wn, hb_wb⟩ := hb.2
 obtain ⟨hheld_s, hheld_n, hheld_b⟩ := id hheld
 refine AWp_seq ?_
 refine AWp_E rfl ?_
 refine ed no rfl rfl (dv_assign rfl) ?_
 refine E_nil ?_
 refine th_norm ?_
 refine AWp_seq ?_
 refine AWp_E rfl ?_
 refine ed (sv held_a held_n held_c) rfl rfl (dv_move rfl) ?_
 refine ed (pt b_p b_o) rfl rfl (dv_move rfl) ?_
 refine ed (pt b_p b_o) rfl rfl (dv_nilCheck rfl) ?_
 refine ed (pt b_p b_o) rfl rfl (dv_fieldAddr rfl rfl) ?_
 refine ed (pt b_p b_o) rfl rfl (dv_fieldAddr rfl rfl) ?_
 refine ed (sv b.m.pa b.m.pn b.m.pc) rfl rfl (dv_load rfl (ld_pv (off := 0) (hbpv.keep hS.keep) rfl rfl rfl)) ?_
 refine ed (iv ((b.m.pn : Nat) : Int)) rfl rfl (dv_len rfl rfl rfl rfl rfl) ?_
 refine ed (iv (((b.m.pn : Nat) : Int) - 1)) rfl rfl (dv_bin rfl rfl (bi_sub (by omega))) ?_
 refine E_call (vs := [sv held_a held_n held_c, iv 0, iv (((b.m.pn : Nat) : Int) - 1)]) rfl rfl rfl rfl rfl rfl rfl (l00Rises_ok held_a held_n held_c held 0 (((b.m.pn : Nat) : Int) - 1) b.m.pn _ (hheld.keep hS.keep) (rfl) (by first | assumption | omega | (simp only [*]; assumption) | (simp_all; done)) (by first | assumption | omega | (simp only [*]; assumption) | (simp_all; done))) ?_
 rintro _ H (⟨h1, rfl, hQ⟩ | ⟨h2, rfl, hQ⟩)
 ·
  have hS := hS.up hQ.keep
  refine ed yes rfl rfl (dv_assign rfl) ?_
  refine E_nil ?_
  refine th_norm ?_
  refine AWp_ret (?_)
  refine ret_of ?_
  refine readsRes_of (rs := [.tmp 4]) (vs := [yes]) rfl (re_cons (re_tmp rfl) (re_nil)) rfl ?_
  refine .inl ?_
  refine ⟨?_, rfl, .base hS.keep⟩
  · rw [hb_1_pn]; assumption
 ·
  have hS := hS.up hQ.keep
  refine ed no rfl rfl (dv_assign rfl) ?_
  refine E_nil ?_
  refine th_norm ?_
  refine AWp_ret (?_)
  refine ret_of ?_
  refine readsRes_of (rs := [.tmp 4]) (vs := [no]) rfl (re_cons (re_tmp rfl) (re_nil)) rfl ?_
  refine .inr (?_)
  refine ⟨?_, rfl, .base hS.keep⟩
  · rw [hb_1_pn]; assumption
theorem l09Can_ok (b_p b_o : Nat) (b : LB) (held_a : Option Addr) (held_n held_c : Nat) (held : List (Int)) (v_a : Option Addr) (v_n v_c : Nat) (v : List (V3)) (step : Nat) (H : AH) (hbpv : PV H b_p b_o b.v) (hb : b.ok H) (hheld : VS H encI held_a held_n held) (hv : VS H encV v_a v_n v) : ACalls Tryz.prog 47 [pt b_p b_o, sv held_a held_n held_c, sv v_a v_n v_c, fl step] H
  (fun r H' => (canP b.d held v.length step ∧ r = yes ∧ SepL H [] H') ∨ (¬(canP b.d held v.length step) ∧ r = no ∧ SepL H [] H')) := by
 refine ACalls_of Tryz.func47 rfl (Nat.le_of_ble_eq_true rfl) ?_
 obtain ⟨H0, hH0⟩ : ∃ H0, H0 = H := ⟨_, rfl⟩
 have hS : SepL H0 [] H := hH0 ▸ SepL.refl H
 subst hH0
 obtain ⟨⟨hb_1_ps, hb_1_pn, hb_1_pb⟩, hb_1_ts, hb_1_tn, hb_1_tb⟩ := id hb.1
 obtain ⟨⟨hb_ss, hb_sn, hb_sb⟩, hb_ws, hb_wn, hb_wb⟩ := hb.2
 obtain ⟨hheld_s, hheld_n, hheld_b⟩ := id hheld
 obtain ⟨hv_s, hv_n, hv_b⟩ := id hv
 refine AWp_seq ?_
 refine AWp_E rfl ?_
 refine ed no rfl rfl (dv_assign rfl) ?_
 refine E_nil ?_
 refine th_norm ?_
 refine AWp_seq ?_
 refine AWp_E rfl ?_
 refine ed (pt b_p b_o) rfl rfl (dv_move rfl) ?_
 refine E_call (vs := [pt b_p b_o]) rfl rfl rfl rfl rfl rfl rfl (l03Is_ok b_p b_o b _ (hbpv.keep hS.keep) (hb.keep hS.keep)) ?_
 rintro _ H (⟨h1, rfl, hQ⟩ | ⟨h2, rfl, hQ⟩)
 ·
  have hS := hS.up hQ.keep
  refine ed yes rfl rfl (dv_move rfl) ?_
  refine ed (pt b_p b_o) rfl rfl (dv_move rfl) ?_
  refine ed (sv held_a held_n held_c) rfl rfl (dv_move rfl) ?_
  refine E_call (vs := [pt b_p b_o, sv held_a held_n held_c]) rfl rfl rfl rfl rfl rfl rfl (l05Held_ok b_p b_o b held_a held_n held_c held _ (hbpv.keep hS.keep) (hb.keep hS.keep) (hheld.keep hS.keep)) ?_
  rintro _ H (⟨h3, rfl, hQ⟩ | ⟨h4, rfl, hQ⟩)
  ·
   have hS := hS.up hQ.keep
   refine ed yes rfl rfl (dv_pick (t := true) rfl rfl) ?_
   refine ed yes rfl rfl (dv_move rfl) ?_
   refine ed (sv v_a v_n v_c) rfl rfl (dv_move rfl) ?_
   refine ed (iv ((v_n : Nat) : Int)) rfl rfl (dv_len rfl rfl rfl rfl rfl) ?_
   refine ed (pt b_p b_o) rfl rfl (dv_move rfl) ?_
   refine ed (pt b_p b_o) rfl rfl (dv_nilCheck rfl) ?_
   refine ed (pt b_p b_o) rfl rfl (dv_fieldAddr rfl rfl) ?_
   refine ed (pt b_p b_o) rfl rfl (dv_fieldAddr rfl rfl) ?_
   refine ed (sv b.m.pa b.m.pn b.m.pc) rfl rfl (dv_load rfl (ld_pv (off := 0) (hbpv.keep hS.keep) rfl rfl rfl)) ?_
   refine ed (iv ((b.m.pn : Nat) : Int)) rfl rfl (dv_len rfl rfl rfl rfl rfl) ?_
   rcases Decidable.em (((v_n : Nat) : Int) = ((b.m.pn : Nat) : Int)) with hc5 | hc5
   ·
    refine ed yes rfl rfl (dv_bin rfl rfl (bi_eql_t hc5)) ?_
    refine ed yes rfl rfl (dv_pick (t := true) rfl rfl) ?_
    refine ed yes rfl rfl (dv_move rfl) ?_
    refine ed (fl step) rfl rfl (dv_move rfl) ?_
    refine E_call (vs := [fl step]) rfl rfl rfl rfl rfl rfl rfl (l03Positive_ok step _) ?_
    rintro _ H (⟨h6, rfl, hQ⟩ | ⟨h7, rfl, hQ⟩)
    ·
     have hS := hS.up hQ.keep
     refine ed yes rfl rfl (dv_pick (t := true) rfl rfl) ?_
     refine ed yes rfl rfl (dv_assign rfl) ?_
     refine E_nil ?_
     refine th_norm ?_
     refine AWp_ret (?_)
     refine ret_of ?_
     refine readsRes_of (rs := [.tmp 8]) (vs := [yes]) rfl (re_cons (re_tmp rfl) (re_nil)) rfl ?_
     refine .inl ?_
     refine ⟨?_, rfl, .base hS.keep⟩
     · exact ⟨h1, h3, by show v.length = b.m.ps.length; omega, h6⟩
    ·
     have hS := hS.up hQ.keep
     refine ed no rfl rfl (dv_pick (t := true) rfl rfl) ?_
     refine ed no rfl rfl (dv_assign rfl) ?_
     refine E_nil ?_
     refine th_norm ?_
     refine AWp_ret (?_)
     refine ret_of ?_
     refine readsRes_of (rs := [.tmp 8]) (vs := [no]) rfl (re_cons (re_tmp rfl) (re_nil)) rfl ?_
     refine .inr (?_)
     refine ⟨?_, rfl, .base hS.keep⟩
     · intro hh
       first | exact absurd hh.1 h7 | exact absurd hh.2.1 h7 | exact absurd hh.2.2.2 h7 | exact absurd ⟨hh.1, hh.2.1⟩ h7
   ·
    refine ed no rfl rfl (dv_bin rfl rfl (bi_eql_f hc5)) ?_
    refine ed no rfl rfl (dv_pick (t := true) rfl rfl) ?_
    refine ed no rfl rfl (dv_move rfl) ?_
    refine E_skip rfl rfl ?_
    refine E_skip rfl rfl ?_
    refine ed no rfl rfl (dv_pick (t := false) rfl rfl) ?_
    refine ed no rfl rfl (dv_assign rfl) ?_
    refine E_nil ?_
    refine th_norm ?_
    refine AWp_ret (?_)
    refine ret_of ?_
    refine readsRes_of (rs := [.tmp 8]) (vs := [no]) rfl (re_cons (re_tmp rfl) (re_nil)) rfl ?_
    refine .inr (?_)
    refine ⟨?_, rfl, .base hS.keep⟩
    · intro hh
      have h3 : v.length = b.m.ps.length := hh.2.2.1
      omega
  ·
   have hS := hS.up hQ.keep
   refine ed no rfl rfl (dv_pick (t := true) rfl rfl) ?_
   refine ed no rfl rfl (dv_move rfl) ?_
   refine E_skip rfl rfl ?_
   refine E_skip rfl rfl ?_
   refine E_skip rfl rfl ?_
   refine E_skip rfl rfl ?_
   refine E_skip rfl rfl ?_
   refine E_skip rfl rfl ?_
   refine E_skip rfl rfl ?_
   refine E_skip rfl rfl ?_
   refine E_skip rfl rfl ?_
   refine ed no rfl rfl (dv_pick (t := false) rfl rfl) ?_
   refine ed no rfl rfl (dv_move rfl) ?_
   refine E_skip rfl rfl ?_
   refine E_skip rfl rfl ?_
   refine ed no rfl rfl (dv_pick (t := false) rfl rfl) ?_
   refine ed no rfl rfl (dv_assign rfl) ?_
   refine E_nil ?_
   refine th_norm ?_
   refine AWp_ret (?_)
   refine ret_of ?_
   refine readsRes_of (rs := [.tmp 8]) (vs := [no]) rfl (re_cons (re_tmp rfl) (re_nil)) rfl ?_
   refine .inr (?_)
   refine ⟨?_, rfl, .base hS.keep⟩
   · intro hh
     first | exact absurd hh.1 h4 | exact absurd hh.2.1 h4 | exact absurd hh.2.2.2 h4 | exact absurd ⟨hh.1, hh.2.1⟩ h4
 ·
  have hS := hS.up hQ.keep
  refine ed no rfl rfl (dv_move rfl) ?_
  refine E_skip rfl rfl ?_
  refine E_skip rfl rfl ?_
  refine E_skip rfl rfl ?_
  refine ed no rfl rfl (dv_pick (t := false) rfl rfl) ?_
  refine ed no rfl rfl (dv_move rfl) ?_
  refine E_skip rfl rfl ?_
  refine E_skip rfl rfl ?_
  refine E_skip rfl rfl ?_
  refine E_skip rfl rfl ?_
  refine E_skip rfl rfl ?_
  refine E_skip rfl rfl ?_
  refine E_skip rfl rfl ?_
  refine E_skip rfl rfl ?_
  refine E_skip rfl rfl ?_
  refine ed no rfl rfl (dv_pick (t := false) rfl rfl) ?_
  refine ed no rfl rfl (dv_move rfl) ?_
  refine E_skip rfl rfl ?_
  refine E_skip rfl rfl ?_
  refine ed no rfl rfl (dv_pick (t := false) rfl rfl) ?_
  refine ed no rfl rfl (dv_assign rfl) ?_
  refine E_nil ?_
  refine th_norm ?_
  refine AWp_ret (?_)
  refine ret_of ?_
  refine readsRes_of (rs := [.tmp 8]) (vs := [no]) rfl (re_cons (re_tmp rfl) (re_nil)) rfl ?_
  refine .inr (?_)
  refine ⟨?_, rfl, .base hS.keep⟩
  · intro hh
    first | exact absurd hh.1 h2 | exact absurd hh.2.1 h2 | exact absurd hh.2.2.2 h2 | exact absurd ⟨hh.1, hh.2.1⟩ h2
theorem l05Inner_ok (a_a : Option Addr) (a_n a_c : Nat) (a : List (V3)) (b_a : Option Addr) (b_n b_c : Nat) (b : List (V3)) (H : AH) (ha : VS H encV a_a a_n a) (hb : VS H encV b_a b_n b) (hab : a.length ≤ b.length) : ACalls Tryz.prog 101 [sv a_a a_n a_c, sv b_a b_n b_c] H
  (fun r H' => ∃ (v_ : Nat), innerD a b = v_ ∧ r = fl v_ ∧ SepL H [] H') := by
 refine ACalls_of Tryz.func101 rfl (Nat.le_of_ble_eq_true rfl) ?_
 obtain ⟨H0, hH0⟩ : ∃ H0, H0 = H := ⟨_, rfl⟩
 have hS : SepL H0 [] H := hH0 ▸ SepL.refl H
 subst hH0
 obtain ⟨ha_s, ha_n, ha_b⟩ := id ha
 obtain ⟨hb_s, hb_n, hb_b⟩ := id hb
 refine AWp_seq ?_
 refine AWp_E rfl ?_
 refine ed (fl 0) rfl rfl (dv_assign rfl) ?_
 refine E_nil ?_
 refine th_norm ?_
 refine AWp_seq ?_
 refine AWp_E rfl ?_
 refine ed (fl 0) rfl rfl (dv_assign rfl) ?_
 refine E_nil ?_
 refine th_norm ?_
 refine AWp_seq ?_
 refine AWp_seq ?_
 refine AWp_E rfl ?_
 refine ed (sv a_a a_n a_c) rfl rfl (dv_move rfl) ?_
 refine ed (iv ((a_n : Nat) : Int)) rfl rfl (dv_len rfl rfl rfl rfl rfl) ?_
 refine ed (iv 0) rfl rfl (dv_move rfl) ?_
 refine E_nil ?_
 refine th_norm ?_
 refine AWp_block ?_
 obtain ⟨I1, hI1⟩ : ∃ I : Nat → Env → AH → Prop, ∀ m_ e_ Hl, I m_ e_ Hl = (∃ (e : Nat) (i : Nat), m_ = a_n - i ∧ AllE [(0, sv a_a a_n a_c), (1, sv b_a b_n b_c), (4, fl 0), (5, fl e), (7, sv a_a a_n a_c), (8, iv ((a_n : Nat) : Int)), (9, iv ((i : Nat) : Int))] e_ ∧ SepL H0 [] Hl ∧ (i ≤ a_n) ∧ (e = iter (innerAt a b) 0 i)) := ⟨_, fun _ _ _ => rfl⟩
 refine AWp_loop I1 (a_n - (0)) ?_ ?_
 ·
  rw [hI1]
  refine ⟨0, 0, rfl, (all_c rfl (all_c rfl (all_c rfl (all_c rfl (all_c rfl (all_c rfl (all_c rfl all_n))))))), hS, ?_, ?_⟩
  · omega
  · rfl
 ·
  intro m2 _ H hl3
  rw [hI1] at hl3
  obtain ⟨e, i, hm4, he5, hS, hi, he⟩ := hl3
  obtain ⟨e6, rfl⟩ := he5.ex
  refine AWp_seq ?_
  refine AWp_E rfl ?_
  rcases Decidable.em (((i : Nat) : Int) < ((a_n : Nat) : Int)) with hc7 | hc7
  ·
   refine ed yes rfl rfl (dv_bin rfl rfl (bi_lss_t hc7)) ?_
   refine E_nil ?_
   refine th_norm ?_
   refine AWp_seq ?_
   refine AWp_cond (t := true) rfl (fun _ => ?_) nofun
   refine AWp_skip ?_
   refine th_norm ?_
   refine AWp_seq ?_
   refine AWp_block ?_
   refine AWp_seq ?_
   refine AWp_E rfl ?_
   refine ed (iv ((i : Nat) : Int)) rfl rfl (dv_move rfl) ?_
   refine ed (iv ((i : Nat) : Int)) rfl rfl (dv_assign rfl) ?_
   refine E_nil ?_
   refine th_norm ?_
   have hR := hS.pushes
   have hKb := hS.keep
   have hB := fun Hc (hc : Keep _ Hc) => hR [] Hc (.base hc)
   refine AWp_D0 rfl (by decide +kernel) fun hM => ?_
   refine wd (fl e) rfl rfl (fun _ hc => dv_move rfl) ?_
   refine wd (sv a_a a_n a_c) rfl rfl (fun _ hc => dv_move rfl) ?_
   refine wd (iv ((i : Nat) : Int)) rfl rfl (fun _ hc => dv_move rfl) ?_
   obtain ⟨x8, hx8⟩ := get_el (xs := a) (i := i) (by omega)
   refine wd (sp a_a (i * 3)) rfl rfl (fun _ hc => dv_indexAddr (a := sv a_a a_n a_c) (b := iv ((i : Nat) : Int)) rfl rfl (ix_sls (n := a_n) (i := i) (ha_s.keep (hKb.trans hc)) hx8 rfl rfl rfl (by omega))) ?_
   refine wd (va x8) rfl rfl (fun _ hc => dv_load rfl (ld_slsA (sz := 3) (m := 3) (ys := [fl x8.x, fl x8.y, fl x8.z]) (off := 0) (ha_s.keep (hKb.trans hc)) hx8 (fun _ => rfl) rfl rfl (Nat.le_of_ble_eq_true rfl) rfl)) ?_
   refine wd (sv b_a b_n b_c) rfl rfl (fun _ hc => dv_move rfl) ?_
   refine wd (iv ((i : Nat) : Int)) rfl rfl (fun _ hc => dv_move rfl) ?_
   obtain ⟨x9, hx9⟩ := get_el (xs := b) (i := i) (by omega)
   refine wd (sp b_a (i * 3)) rfl rfl (fun _ hc => dv_indexAddr (a := sv b_a b_n b_c) (b := iv ((i : Nat) : Int)) rfl rfl (ix_sls (n := b_n) (i := i) (hb_s.keep (hKb.trans hc)) hx9 rfl rfl rfl (by omega))) ?_
   refine wd (va x9) rfl rfl (fun _ hc => dv_load rfl (ld_slsA (sz := 3) (m := 3) (ys := [fl x9.x, fl x9.y, fl x9.z]) (off := 0) (hb_s.keep (hKb.trans hc)) hx9 (fun _ => rfl) rfl rfl (Nat.le_of_ble_eq_true rfl) rfl)) ?_
   refine W_call (vs := [va x8, va x9]) rfl rfl rfl rfl rfl rfl rfl (l01Inner_ok x8 x9 _) ?_
   rintro _ H ⟨v10, rfl, rfl, hQ⟩
   have hM := hM.up hQ.keep
   refine ⟨hM.keep, ?_⟩
   refine wd (fl (fop .add .f32 e (vinner x8 x9))) rfl rfl (fun _ hc => dv_bin rfl rfl rfl) ?_
   refine wd (fl (fop .add .f32 e (vinner x8 x9))) rfl rfl (fun _ hc => dv_assign rfl) ?_
   have hS := hR _ _ hM
   refine W_nil ?_
   refine bl_norm ?_
   refine th_norm ?_
   refine AWp_E rfl ?_
   refine ed (iv ((i + 1 : Nat) : Int)) rfl rfl (dv_bin rfl rfl (bi_add (by omega))) ?_
   refine ed (iv ((i + 1 : Nat) : Int)) rfl rfl (dv_move rfl) ?_
   refine E_nil ?_
   refine loop_next (I := I1) (a_n - (i + 1)) (by rw [hm4]; omega) ?_
   rw [hI1]
   refine ⟨fop .add .f32 e (vinner x8 x9), i + 1, rfl, (all_c rfl (all_c rfl (all_c rfl (all_c rfl (all_c rfl (all_c rfl (all_c rfl all_n))))))), hS, ?_, ?_⟩
   · omega
   · refine iter_to he ?_
     simp only [innerAt, gD v0 hx8, gD v0 hx9]
  ·
   refine ed no rfl rfl (dv_bin rfl rfl (bi_lss_f hc7)) ?_
   refine E_nil ?_
   refine th_norm ?_
   refine AWp_seq ?_
   refine AWp_cond (t := false) rfl nofun (fun _ => ?_)
   refine AWp_exit (th_exit (th_exit (bl_exit (?_))))
   refine th_norm ?_
   refine AWp_seq ?_
   refine AWp_E rfl ?_
   refine ed (fl e) rfl rfl (dv_move rfl) ?_
   refine ed (fl e) rfl rfl (dv_assign rfl) ?_
   refine E_nil ?_
   refine th_norm ?_
   refine AWp_ret (?_)
   refine ret_of ?_
   refine readsRes_of (rs := [.tmp 4]) (vs := [fl e]) rfl (re_cons (re_tmp rfl) (re_nil)) rfl ?_
   refine ⟨e, ?_, rfl, .base hS.keep⟩
   · have hii : i = a.length := by omega
     rw [he, hii]; rfl
theorem l09Freed_ok (v_a : Option Addr) (v_n v_c : Nat) (v : List (V3)) (held_a : Option Addr) (held_n held_c : Nat) (held : List (Int)) (H : AH) (hv : VS H encV v_a v_n v) (hheld : VS H encI held_a held_n held) (hp0 : heldP v.length held) : ACalls Tryz.prog 65 [sv v_a v_n v_c, sv held_a held_n held_c] H
  (fun r H' => ∃ (x_a : Option Addr), ∃ (x_n : Nat), ∃ (x_c : Nat), ∃ (x_ : List (V3)), x_.length = v.length ∧ x_ = freedD v held ∧ x_.length = x_n ∧ r = sv x_a x_n x_c ∧ SepL H [sl encV 41 3 x_a x_c x_] H') := by
 refine ACalls_of Tryz.func65 rfl (Nat.le_of_ble_eq_true rfl) ?_
 obtain ⟨H0, hH0⟩ : ∃ H0, H0 = H := ⟨_, rfl⟩
 have hS : SepL H0 [] H := hH0 ▸ SepL.refl H
 subst hH0
 obtain ⟨hv_s, hv_n, hv_b⟩ := id hv
 obtain ⟨hheld_s, hheld_n, hheld_b⟩ := id hheld
 refine AWp_seq ?_
 refine AWp_E rfl ?_
 refine ed (sv none 0 0) rfl rfl (dv_assign rfl) ?_
 refine E_nil ?_
 refine th_norm ?_
 refine AWp_seq ?_
 refine AWp_E rfl ?_
 refine S_lit (sz := 3) (enc := encV) (xs := ([] : List V3)) (n := 0) hS rfl rfl rfl rfl rfl rfl rfl rfl fun a1 H hS => ?_
 refine ed (sv v_a v_n v_c) rfl rfl (dv_move rfl) ?_
 refine S_append (k := 0) (bytes := 12) (enc := encV) (xs := ([] : List V3)) (ys := v) hS rfl rfl rfl rfl rfl rfl rfl rfl rfl rfl (fun _ => rfl) (fun _ => rfl) rfl rfl rfl hv_n (hv_s.keep hS.keep) (by omega) (by omega) fun a2 c3 x4 H hx5 hn6 hS => ?_
 refine ed (sv a2 x4.length c3) rfl rfl (dv_assign rfl) ?_
 refine E_nil ?_
 refine th_norm ?_
 refine AWp_seq ?_
 refine AWp_seq ?_
 refine AWp_E rfl ?_
 refine ed (sv held_a held_n held_c) rfl rfl (dv_move rfl) ?_
 refine ed (iv ((held_n : Nat) : Int)) rfl rfl (dv_len rfl rfl rfl rfl rfl) ?_
 refine ed (iv 0) rfl rfl (dv_move rfl) ?_
 refine E_nil ?_
 refine th_norm ?_
 refine AWp_block ?_
 obtain ⟨I7, hI7⟩ : ∃ I : Nat → Env → AH → Prop, ∀ m_ e_ Hl, I m_ e_ Hl = (∃ (i : Nat) (o : List (V3)), m_ = held_n - i ∧ AllE [(0, sv v_a v_n v_c), (1, sv held_a held_n held_c), (4, sv none 0 0), (5, sv a2 x4.length c3), (7, sv a1 0 0), (8, sv v_a v_n v_c), (9, sv a2 x4.length c3), (10, sv held_a held_n held_c), (11, iv ((held_n : Nat) : Int)), (12, iv ((i : Nat) : Int))] e_ ∧ SepL H0 [sl encV 41 3 a2 c3 o] Hl ∧ o.length = x4.length ∧ (i ≤ held_n) ∧ (o = iter (fun i (o : List V3) => o.set (held.getD i 0).toNat v0) v i) ∧ (o.length = v.length)) := ⟨_, fun _ _ _ => rfl⟩
 refine AWp_loop I7 (held_n - (0)) ?_ ?_
 ·
  rw [hI7]
  refine ⟨0, x4, rfl, (all_c rfl (all_c rfl (all_c rfl (all_c rfl (all_c rfl (all_c rfl (all_c rfl (all_c rfl (all_c rfl (all_c rfl all_n)))))))))), hS, rfl, ?_, ?_, ?_⟩
  · omega
  · rw [hx5]; rfl
  · rw [hx5]; simp
 ·
  intro m8 _ H hl9
  rw [hI7] at hl9
  obtain ⟨i, o, hm10, he11, hS, ho_n, hi, ho, hol⟩ := hl9
  obtain ⟨e12, rfl⟩ := he11.ex
  refine AWp_seq ?_
  refine AWp_E rfl ?_
  rcases Decidable.em (((i : Nat) : Int) < ((held_n : Nat) : Int)) with hc13 | hc13
  ·
   refine ed yes rfl rfl (dv_bin rfl rfl (bi_lss_t hc13)) ?_
   refine E_nil ?_
   refine th_norm ?_
   refine AWp_seq ?_
   refine AWp_cond (t := true) rfl (fun _ => ?_) nofun
   refine AWp_skip ?_
   refine th_norm ?_
   refine AWp_seq ?_
   refine AWp_block ?_
   refine AWp_seq ?_
   refine AWp_E rfl ?_
   refine ed (iv ((i : Nat) : Int)) rfl rfl (dv_move rfl) ?_
   refine ed (iv ((i : Nat) : Int)) rfl rfl (dv_assign rfl) ?_
   refine E_nil ?_
   refine th_norm ?_
   refine AWp_E rfl ?_
   refine ed (sv a2 x4.length c3) rfl rfl (dv_move rfl) ?_
   refine ed (sv held_a held_n held_c) rfl rfl (dv_move rfl) ?_
   refine ed (iv ((i : Nat) : Int)) rfl rfl (dv_move rfl) ?_
   obtain ⟨x14, hx14⟩ := get_el (xs := held) (i := i) (by omega)
   have hpi := heldP_in hp0 hx14
   unfold inP at hpi
   refine ed (sp held_a (i * 1)) rfl rfl (dv_indexAddr (a := sv held_a held_n held_c) (b := iv ((i : Nat) : Int)) rfl rfl (ix_sls (n := held_n) (i := i) (hheld_s.keep hS.keep) hx14 rfl rfl rfl (by omega))) ?_
   refine ed (iv x14) rfl rfl (dv_load rfl (ld_sls (sz := 1) (off := 0) (hheld_s.keep hS.keep) hx14 (fun _ => rfl) rfl rfl rfl)) ?_
   refine ed (.agg #[fl 0, fl 0, fl 0]) rfl rfl (dv_buildZ (vs := []) rfl rfl rfl rfl rfl rfl) ?_
   obtain ⟨x15, hx15⟩ := get_el (xs := o) (i := (x14).toNat) (by omega)
   refine ed (sp a2 (((x14).toNat) * 3)) rfl rfl (dv_indexAddr (a := sv a2 x4.length c3) (b := iv x14) rfl rfl (ix_sls (n := x4.length) (i := ((x14).toNat)) (hS.sls 0 rfl) hx15 rfl rfl (by omega) (by omega))) ?_
   refine S_storeS (k := 0) (i := ((x14).toNat)) (z' := (⟨0, 0, 0⟩ : V3)) (off := 0) (yv := .agg #[fl 0, fl 0, fl 0]) hS rfl rfl rfl rfl (fun _ => rfl) rfl rfl rfl hx15 rfl rfl rfl rfl fun H hS => ?_
   have hx16 := set_get (z := (⟨0, 0, 0⟩ : V3)) hx15
   refine E_nil ?_
   refine bl_norm ?_
   refine th_norm ?_
   refine AWp_E rfl ?_
   refine ed (iv ((i + 1 : Nat) : Int)) rfl rfl (dv_bin rfl rfl (bi_add (by omega))) ?_
   refine ed (iv ((i + 1 : Nat) : Int)) rfl rfl (dv_move rfl) ?_
   refine E_nil ?_
   refine loop_next (I := I7) (held_n - (i + 1)) (by rw [hm10]; omega) ?_
   rw [hI7]
   refine ⟨i + 1, o.set ((x14).toNat) (⟨0, 0, 0⟩ : V3), rfl, (all_c rfl (all_c rfl (all_c rfl (all_c rfl (all_c rfl (all_c rfl (all_c rfl (all_c rfl (all_c rfl (all_c rfl all_n)))))))))), hS, (by rw [List.length_set]; exact ho_n), ?_, ?_, ?_⟩
   · omega
   · rw [freed_step hx14, ← ho]
     rfl
   · rw [List.length_set]; exact hol
  ·
   refine ed no rfl rfl (dv_bin rfl rfl (bi_lss_f hc13)) ?_
   refine E_nil ?_
   refine th_norm ?_
   refine AWp_seq ?_
   refine AWp_cond (t := false) rfl nofun (fun _ => ?_)
   refine AWp_exit (th_exit (th_exit (bl_exit (?_))))
   refine th_norm ?_
   refine AWp_seq ?_
   refine AWp_E rfl ?_
   refine ed (sv a2 x4.length c3) rfl rfl (dv_move rfl) ?_
   refine ed (sv a2 x4.length c3) rfl rfl (dv_assign rfl) ?_
   refine E_nil ?_
   refine th_norm ?_
   refine AWp_ret (?_)
   refine ret_of ?_
   refine readsRes_of (rs := [.tmp 4]) (vs := [sv a2 x4.length c3]) rfl (re_cons (re_tmp rfl) (re_nil)) rfl ?_
   refine ⟨a2, x4.length, c3, o, ?_, ?_, ho_n, rfl, hS.pick [0] rfl⟩
   · exact hol
   · have hii : i = held.length := by omega
     rw [ho, hii]; rfl
theorem l03Moved_ok (b_p b_o : Nat) (b : LB) (v_a : Option Addr) (v_n v_c : Nat) (v : List (V3)) (k : Nat) (H : AH) (hbpv : PV H b_p b_o b.v) (hb : b.ok H) (hv : VS H encV v_a v_n v) (hv0 : v.length = b.m.ps.length) : ACalls Tryz.prog 49 [pt b_p b_o, sv v_a v_n v_c, fl k] H
  (fun r H' => ∃ (b_ : LB), b_.d = movedD b.d v k ∧ (b_.m.ps.length = b_.m.pn ∧ b_.m.ts.length = b_.m.tn) ∧ (∀ q ∈ b_.m.ts, q.xs.length ≤ 1048576) ∧ (b_.ss.length = b_.sn ∧ b_.ws.length = b_.wn) ∧ r = bva b_ ∧ SepL H [sl encV 41 3 b_.m.pa b_.m.pc b_.m.ps, sl encR 53 1 b_.m.ta b_.m.tc b_.m.ts, rowsE 2 b_.m.ts, sl encS 116 4 b_.sa b_.sc b_.ss, sl encF 27 1 b_.wa b_.wc b_.ws] H') := by
 refine ACalls_of Tryz.func49 rfl (Nat.le_of_ble_eq_true rfl) ?_
 obtain ⟨H0, hH0⟩ : ∃ H0, H0 = H := ⟨_, rfl⟩
 have hS : SepL H0 [] H := hH0 ▸ SepL.refl H
 subst hH0
 obtain ⟨⟨hb_1_ps, hb_1_pn, hb_1_pb⟩, hb_1_ts, hb_1_tn, hb_1_tb⟩ := id hb.1
 obtain ⟨⟨hb_ss, hb_sn, hb_sb⟩, hb_ws, hb_wn, hb_wb⟩ := hb.2
 obtain ⟨hv_s, hv_n, hv_b⟩ := id hv
 refine AWp_seq ?_
 refine AWp_E rfl ?_
 refine S_box (l := [sv none 0 0, sv none 0 0, sv none 0 0, fl 0, fl 0, sv none 0 0, fl 0, fl 0, fl 0]) hS rfl rfl rfl rfl rfl fun b1 H hS => ?_
 refine E_nil ?_
 refine th_norm ?_
 refine AWp_seq ?_
 refine AWp_E rfl ?_
 refine ed (pt b_p b_o) rfl rfl (dv_move rfl) ?_
 refine E_call (vs := [pt b_p b_o]) rfl rfl rfl rfl rfl rfl rfl (l03Own_ok b_p b_o b _ (hbpv.keep hS.keep) (hb.keep hS.keep)) ?_
 rintro _ H ⟨b2, h3, h4, h5, h6, rfl, hQ⟩
 have hdlh3 : b2.m.ps.length = b.m.ps.length := congrArg (fun d : Bod => d.m.ps.length) h3
 have hdth3 : (rxs b2.m.ts).length = (rxs b.m.ts).length := congrArg (fun d : Bod => d.m.ts.length) h3
 simp only [rxs, List.length_map] at hdth3
 have hdsh3 : b2.ss.length = b.ss.length := congrArg (fun d : Bod => d.ss.length) h3
 have hdwh3 : b2.ws.length = b.ws.length := congrArg (fun d : Bod => d.ws.length) h3
 have hS := hS.push hQ
 refine S_box (l := [sv none 0 0, sv none 0 0, sv none 0 0, fl 0, fl 0, sv none 0 0, fl 0, fl 0, fl 0]) hS rfl rfl rfl rfl rfl fun b7 H hS => ?_
 refine S_store (i := 6) (yv := bva b2) (l' := [sv b2.m.pa b2.m.pn b2.m.pc, sv b2.m.ta b2.m.tn b2.m.tc, sv b2.sa b2.sn b2.sc, fl b2.film, fl b2.bend, sv b2.wa b2.wn b2.wc, fl b2.fall.x, fl b2.fall.y, fl b2.fall.z]) hS rfl rfl rfl rfl rfl rfl rfl rfl rfl rfl rfl rfl fun H hS => ?_
 refine E_nil ?_
 refine th_norm ?_
 refine AWp_seq ?_
 refine AWp_seq ?_
 refine AWp_E rfl ?_
 refine ed (sv v_a v_n v_c) rfl rfl (dv_move rfl) ?_
 refine ed (iv ((v_n : Nat) : Int)) rfl rfl (dv_len rfl rfl rfl rfl rfl) ?_
 refine ed (iv 0) rfl rfl (dv_move rfl) ?_
 refine E_nil ?_
 refine th_norm ?_
 refine AWp_block ?_
 obtain ⟨I8, hI8⟩ : ∃ I : Nat → Env → AH → Prop, ∀ m_ e_ Hl, I m_ e_ Hl = (∃ (i : Nat) (o : List (V3)), m_ = v_n - i ∧ AllE [(0, pt b_p b_o), (1, sv v_a v_n v_c), (2, fl k), (6, pt b1 0), (7, pt b7 0), (9, pt b_p b_o), (10, bva b2), (11, sv v_a v_n v_c), (12, iv ((v_n : Nat) : Int)), (13, iv ((i : Nat) : Int))] e_ ∧ SepL H0 [box b1 [sv none 0 0, sv none 0 0, sv none 0 0, fl 0, fl 0, sv none 0 0, fl 0, fl 0, fl 0] 43, sl encV 41 3 b2.m.pa b2.m.pc o, sl encR 53 1 b2.m.ta b2.m.tc b2.m.ts, rowsE 2 b2.m.ts, sl encS 116 4 b2.sa b2.sc b2.ss, sl encF 27 1 b2.wa b2.wc b2.ws, box b7 [sv b2.m.pa b2.m.pn b2.m.pc, sv b2.m.ta b2.m.tn b2.m.tc, sv b2.sa b2.sn b2.sc, fl b2.film, fl b2.bend, sv b2.wa b2.wn b2.wc, fl b2.fall.x, fl b2.fall.y, fl b2.fall.z] 43] Hl ∧ o.length = b2.m.pn ∧ (i ≤ v_n) ∧ (o = iter (moveAt v k) b.m.ps i)) := ⟨_, fun _ _ _ => rfl⟩
 refine AWp_loop I8 (v_n - (0)) ?_ ?_
 ·
  rw [hI8]
  refine ⟨0, b2.m.ps, rfl, (all_c rfl (all_c rfl (all_c rfl (all_c rfl (all_c rfl (all_c rfl (all_c rfl (all_c rfl (all_c rfl (all_c rfl all_n)))))))))), hS, h4.1, ?_, ?_⟩
  · omega
  · have hdd := h3; simp only [LB.d, LM.d, Bod.mk.injEq, Msh.mk.injEq] at hdd; exact hdd.1.1
 ·
  intro m9 _ H hl10
  rw [hI8] at hl10
  obtain ⟨i, o, hm11, he12, hS, ho_n, hi, ho⟩ := hl10
  obtain ⟨e13, rfl⟩ := he12.ex
  refine AWp_seq ?_
  refine AWp_E rfl ?_
  rcases Decidable.em (((i : Nat) : Int) < ((v_n : Nat) : Int)) with hc14 | hc14
  ·
   refine ed yes rfl rfl (dv_bin rfl rfl (bi_lss_t hc14)) ?_
   refine E_nil ?_
   refine th_norm ?_
   refine AWp_seq ?_
   refine AWp_cond (t := true) rfl (fun _ => ?_) nofun
   refine AWp_skip ?_
   refine th_norm ?_
   refine AWp_seq ?_
   refine AWp_block ?_
   refine AWp_seq ?_
   refine AWp_E rfl ?_
   refine ed (iv ((i : Nat) : Int)) rfl rfl (dv_move rfl) ?_
   refine ed (iv ((i : Nat) : Int)) rfl rfl (dv_assign rfl) ?_
   refine E_nil ?_
   refine th_norm ?_
   have hR := hS.pushes
   have hKb := hS.keep
   have hB := fun Hc (hc : Keep _ Hc) => hR [] Hc (.base hc)
   refine AWp_D0 rfl (by decide +kernel) fun hM => ?_
   refine wd (pt b7 0) rfl rfl (fun _ hc => dv_fieldAddr rfl rfl) ?_
   refine wd (pt b7 0) rfl rfl (fun _ hc => dv_fieldAddr rfl rfl) ?_
   refine wd (sv b2.m.pa b2.m.pn b2.m.pc) rfl rfl (fun _ hc => dv_load rfl (ld_box ((hB _ hc).box 6 rfl) rfl rfl rfl)) ?_
   refine wd (iv ((i : Nat) : Int)) rfl rfl (fun _ hc => dv_move rfl) ?_
   refine wd (pt b_p b_o) rfl rfl (fun _ hc => dv_move rfl) ?_
   refine wd (pt b_p b_o) rfl rfl (fun _ hc => dv_nilCheck rfl) ?_
   refine wd (pt b_p b_o) rfl rfl (fun _ hc => dv_fieldAddr rfl rfl) ?_
   refine wd (pt b_p b_o) rfl rfl (fun _ hc => dv_fieldAddr rfl rfl) ?_
   refine wd (sv b.m.pa b.m.pn b.m.pc) rfl rfl (fun _ hc => dv_load rfl (ld_pv (off := 0) (hbpv.keep (hKb.trans hc)) rfl rfl rfl)) ?_
   refine wd (iv ((i : Nat) : Int)) rfl rfl (fun _ hc => dv_move rfl) ?_
   obtain ⟨x15, hx15⟩ := get_el (xs := b.m.ps) (i := i) (by omega)
   refine wd (sp b.m.pa (i * 3)) rfl rfl (fun _ hc => dv_indexAddr (a := sv b.m.pa b.m.pn b.m.pc) (b := iv ((i : Nat) : Int)) rfl rfl (ix_sls (n := b.m.pn) (i := i) (hb_1_ps.keep (hKb.trans hc)) hx15 rfl rfl rfl (by omega))) ?_
   refine wd (va x15) rfl rfl (fun _ hc => dv_load rfl (ld_slsA (sz := 3) (m := 3) (ys := [fl x15.x, fl x15.y, fl x15.z]) (off := 0) (hb_1_ps.keep (hKb.trans hc)) hx15 (fun _ => rfl) rfl rfl (Nat.le_of_ble_eq_true rfl) rfl)) ?_
   refine wd (sv v_a v_n v_c) rfl rfl (fun _ hc => dv_move rfl) ?_
   refine wd (iv ((i : Nat) : Int)) rfl rfl (fun _ hc => dv_move rfl) ?_
   obtain ⟨x16, hx16⟩ := get_el (xs := v) (i := i) (by omega)
   refine wd (sp v_a (i * 3)) rfl rfl (fun _ hc => dv_indexAddr (a := sv v_a v_n v_c) (b := iv ((i : Nat) : Int)) rfl rfl (ix_sls (n := v_n) (i := i) (hv_s.keep (hKb.trans hc)) hx16 rfl rfl rfl (by omega))) ?_
   refine wd (va x16) rfl rfl (fun _ hc => dv_load rfl (ld_slsA (sz := 3) (m := 3) (ys := [fl x16.x, fl x16.y, fl x16.z]) (off := 0) (hv_s.keep (hKb.trans hc)) hx16 (fun _ => rfl) rfl rfl (Nat.le_of_ble_eq_true rfl) rfl)) ?_
   refine wd (fl k) rfl rfl (fun _ hc => dv_move rfl) ?_
   refine W_call (vs := [va x16, fl k]) rfl rfl rfl rfl rfl rfl rfl (l01Scale_ok x16 k _) ?_
   rintro _ H ⟨v17, rfl, rfl, hQ⟩
   have hM := hM.up hQ.keep
   refine ⟨hM.keep, ?_⟩
   refine W_call (vs := [va x15, .agg #[fl ((vscale x16 k).x), fl ((vscale x16 k).y), fl ((vscale x16 k).z)]]) rfl rfl rfl rfl rfl rfl rfl (l01Add_ok x15 (vscale x16 k) _) ?_
   rintro _ H ⟨v18, rfl, rfl, hQ⟩
   have hM := hM.up hQ.keep
   refine ⟨hM.keep, ?_⟩
   obtain ⟨x19, hx19⟩ := get_el (xs := o) (i := i) (by omega)
   refine wd (sp b2.m.pa (i * 3)) rfl rfl (fun _ hc => dv_indexAddr (a := sv b2.m.pa b2.m.pn b2.m.pc) (b := iv ((i : Nat) : Int)) rfl rfl (ix_sls (n := b2.m.pn) (i := i) ((hB _ hc).sls 1 rfl) hx19 rfl rfl rfl (by omega))) ?_
   have hS := hR _ _ hM
   refine D_storeS (k := 1) (i := i) (z' := (vadd x15 (vscale x16 k))) (off := 0) (yv := .agg #[fl ((vadd x15 (vscale x16 k)).x), fl ((vadd x15 (vscale x16 k)).y), fl ((vadd x15 (vscale x16 k)).z)]) hS rfl rfl rfl rfl rfl (fun _ => rfl) rfl rfl rfl hx19 rfl rfl rfl rfl fun H hS => ?_
   have hx20 := set_get (z := (vadd x15 (vscale x16 k))) hx19
   refine bl_norm ?_
   refine th_norm ?_
   refine AWp_E rfl ?_
   refine ed (iv ((i + 1 : Nat) : Int)) rfl rfl (dv_bin rfl rfl (bi_add (by omega))) ?_
   refine ed (iv ((i + 1 : Nat) : Int)) rfl rfl (dv_move rfl) ?_
   refine E_nil ?_
   refine loop_next (I := I8) (v_n - (i + 1)) (by rw [hm11]; omega) ?_
   rw [hI8]
   refine ⟨i + 1, o.set i (vadd x15 (vscale x16 k)), rfl, (all_c rfl (all_c rfl (all_c rfl (all_c rfl (all_c rfl (all_c rfl (all_c rfl (all_c rfl (all_c rfl (all_c rfl all_n)))))))))), hS, (by rw [List.length_set]; exact ho_n), ?_, ?_⟩
   · omega
   · exact moveAt_step ho hx15 hx16
  ·
   refine ed no rfl rfl (dv_bin rfl rfl (bi_lss_f hc14)) ?_
   refine E_nil ?_
   refine th_norm ?_
   refine AWp_seq ?_
   refine AWp_cond (t := false) rfl nofun (fun _ => ?_)
   refine AWp_exit (th_exit (th_exit (bl_exit (?_))))
   refine th_norm ?_
   refine AWp_seq ?_
   refine AWp_E rfl ?_
   refine ed (bva b2) rfl rfl (dv_load rfl (ld_boxA (n := 9) (hS.box 6 rfl) rfl rfl (Nat.le_of_ble_eq_true rfl) rfl)) ?_
   refine S_store (i := 0) (yv := bva b2) (l' := [sv b2.m.pa b2.m.pn b2.m.pc, sv b2.m.ta b2.m.tn b2.m.tc, sv b2.sa b2.sn b2.sc, fl b2.film, fl b2.bend, sv b2.wa b2.wn b2.wc, fl b2.fall.x, fl b2.fall.y, fl b2.fall.z]) hS rfl rfl rfl rfl rfl rfl rfl rfl rfl rfl rfl rfl fun H hS => ?_
   refine E_nil ?_
   refine th_norm ?_
   refine AWp_ret (?_)
   refine ret_of ?_
   refine readsRes_of (rs := [.cell 6 43]) (vs := [bva b2]) rfl (re_cons (re_cell (p := pt b1 0) rfl (ld_boxA (n := 9) (hS.box 0 rfl) rfl rfl (Nat.le_of_ble_eq_true rfl) rfl)) (re_nil)) rfl ?_
   refine ⟨⟨⟨b2.m.pa, b2.m.pc, b2.m.pn, o, b2.m.ta, b2.m.tc, b2.m.tn, b2.m.ts⟩, b2.sa, b2.sc, b2.sn, b2.ss, b2.film, b2.bend, b2.wa, b2.wc, b2.wn, b2.ws, b2.fall⟩, ?_, ?_, ?_, ?_, rfl, hS.pick [1, 2, 3, 4, 5] rfl⟩
   · have hii : i = v.length := by omega
     have hdd := h3
     simp only [LB.d, LM.d, Bod.mk.injEq, Msh.mk.injEq] at hdd
     simp only [movedD, LB.d, LM.d, Bod.mk.injEq, Msh.mk.injEq]
     rw [ho, hii]
     simp_all
   · exact ⟨ho_n, h4.2⟩
   · exact h5
   · exact h6
theorem l09Times_ok (b_p b_o : Nat) (b : LB) (held_a : Option Addr) (held_n held_c : Nat) (held : List (Int)) (v_a : Option Addr) (v_n v_c : Nat) (v : List (V3)) (step : Nat) (H : AH) (hbpv : PV H b_p b_o b.v) (hb : b.ok H) (hheld : VS H encI held_a held_n held) (hv : VS H encV v_a v_n v) (hb0 : Bod.ok b.d) (hv0 : v.length = b.m.ps.length) (hp0 : heldP b.m.ps.length held) : ACalls Tryz.prog 68 [pt b_p b_o, sv held_a held_n held_c, sv v_a v_n v_c, fl step] H
  (fun r H' => ∃ (x_a : Option Addr), ∃ (x_n : Nat), ∃ (x_c : Nat), ∃ (x_ : List (V3)), x_.length = v.length ∧ x_ = stiffD b.d held v step ∧ x_.length = x_n ∧ r = sv x_a x_n x_c ∧ SepL H [sl encV 41 3 x_a x_c x_] H') := by
 refine ACalls_of Tryz.func68 rfl (Nat.le_of_ble_eq_true rfl) ?_
 obtain ⟨H0, hH0⟩ : ∃ H0, H0 = H := ⟨_, rfl⟩
 have hS : SepL H0 [] H := hH0 ▸ SepL.refl H
 subst hH0
 obtain ⟨⟨hb_1_ps, hb_1_pn, hb_1_pb⟩, hb_1_ts, hb_1_tn, hb_1_tb⟩ := id hb.1
 obtain ⟨⟨hb_ss, hb_sn, hb_sb⟩, hb_ws, hb_wn, hb_wb⟩ := hb.2
 obtain ⟨hheld_s, hheld_n, hheld_b⟩ := id hheld
 obtain ⟨hv_s, hv_n, hv_b⟩ := id hv
 have hbn : b.m.ps.length ≤ 64 := hb0.1.1
 refine AWp_seq ?_
 refine AWp_E rfl ?_
 refine ed (sv none 0 0) rfl rfl (dv_assign rfl) ?_
 refine E_nil ?_
 refine th_norm ?_
 refine AWp_seq ?_
 refine AWp_E rfl ?_
 refine ed (pt b_p b_o) rfl rfl (dv_move rfl) ?_
 refine ed (sv v_a v_n v_c) rfl rfl (dv_move rfl) ?_
 refine ed (fl step) rfl rfl (dv_move rfl) ?_
 refine ed (fl (fneg .f32 step)) rfl rfl (dv_un rfl rfl) ?_
 refine E_call (vs := [pt b_p b_o, sv v_a v_n v_c, fl (fneg .f32 step)]) rfl rfl rfl rfl rfl rfl rfl (l03Moved_ok b_p b_o b v_a v_n v_c v (fneg .f32 step) _ (hbpv.keep hS.keep) (hb.keep hS.keep) (hv.keep hS.keep) hv0) ?_
 rintro _ H ⟨b1, h2, h3, h4, h5, rfl, hQ⟩
 have hdlh2 : b1.m.ps.length = (movedD b.d v (fneg .f32 step)).m.ps.length := congrArg (fun d : Bod => d.m.ps.length) h2
 have hdth2 : (rxs b1.m.ts).length = (movedD b.d v (fneg .f32 step)).m.ts.length := congrArg (fun d : Bod => d.m.ts.length) h2
 simp only [rxs, List.length_map] at hdth2
 have hdsh2 : b1.ss.length = (movedD b.d v (fneg .f32 step)).ss.length := congrArg (fun d : Bod => d.ss.length) h2
 have hdwh2 : b1.ws.length = (movedD b.d v (fneg .f32 step)).ws.length := congrArg (fun d : Bod => d.ws.length) h2
 have hS := hS.push hQ
 have hokh2 : Bod.ok b1.d := by rw [h2]; exact movedD_ok (by assumption) _ _
 have hmlh2 : b1.m.ps.length = b.m.ps.length := by rw [hdlh2]; exact moved_len _ _ _ _
 have hmsh2 : b1.ss.length = b.ss.length := hdsh2
 have hmwh2 : b1.ws.length = b.ws.length := hdwh2
 have hmth2 : b1.m.ts.length = b.m.ts.length := hdth2.trans (by show (rxs b.m.ts).length = _; rw [rxs, List.length_map])
 refine S_box (l := [sv none 0 0, sv none 0 0, sv none 0 0, fl 0, fl 0, sv none 0 0, fl 0, fl 0, fl 0]) hS rfl rfl rfl rfl rfl fun b6 H hS => ?_
 refine S_store (i := 5) (yv := bva b1) (l' := [sv b1.m.pa b1.m.pn b1.m.pc, sv b1.m.ta b1.m.tn b1.m.tc, sv b1.sa b1.sn b1.sc, fl b1.film, fl b1.bend, sv b1.wa b1.wn b1.wc, fl b1.fall.x, fl b1.fall.y, fl b1.fall.z]) hS rfl rfl rfl rfl rfl rfl rfl rfl rfl rfl rfl rfl fun H hS => ?_
 refine E_nil ?_
 refine th_norm ?_
 refine AWp_seq ?_
 refine AWp_E rfl ?_
 refine ed (pt b_p b_o) rfl rfl (dv_move rfl) ?_
 refine ed (sv v_a v_n v_c) rfl rfl (dv_move rfl) ?_
 refine ed (fl step) rfl rfl (dv_move rfl) ?_
 refine E_call (vs := [pt b_p b_o, sv v_a v_n v_c, fl step]) rfl rfl rfl rfl rfl rfl rfl (l03Moved_ok b_p b_o b v_a v_n v_c v step _ (hbpv.keep hS.keep) (hb.keep hS.keep) (hv.keep hS.keep) hv0) ?_
 rintro _ H ⟨b7, h8, h9, h10, h11, rfl, hQ⟩
 have hdlh8 : b7.m.ps.length = (movedD b.d v step).m.ps.length := congrArg (fun d : Bod => d.m.ps.length) h8
 have hdth8 : (rxs b7.m.ts).length = (movedD b.d v step).m.ts.length := congrArg (fun d : Bod => d.m.ts.length) h8
 simp only [rxs, List.length_map] at hdth8
 have hdsh8 : b7.ss.length = (movedD b.d v step).ss.length := congrArg (fun d : Bod => d.ss.length) h8
 have hdwh8 : b7.ws.length = (movedD b.d v step).ws.length := congrArg (fun d : Bod => d.ws.length) h8
 have hS := hS.push hQ
 have hokh8 : Bod.ok b7.d := by rw [h8]; exact movedD_ok (by assumption) _ _
 have hmlh8 : b7.m.ps.length = b.m.ps.length := by rw [hdlh8]; exact moved_len _ _ _ _
 have hmsh8 : b7.ss.length = b.ss.length := hdsh8
 have hmwh8 : b7.ws.length = b.ws.length := hdwh8
 have hmth8 : b7.m.ts.length = b.m.ts.length := hdth8.trans (by show (rxs b.m.ts).length = _; rw [rxs, List.length_map])
 refine S_box (l := [sv none 0 0, sv none 0 0, sv none 0 0, fl 0, fl 0, sv none 0 0, fl 0, fl 0, fl 0]) hS rfl rfl rfl rfl rfl fun b12 H hS => ?_
 refine S_store (i := 11) (yv := bva b7) (l' := [sv b7.m.pa b7.m.pn b7.m.pc, sv b7.m.ta b7.m.tn b7.m.tc, sv b7.sa b7.sn b7.sc, fl b7.film, fl b7.bend, sv b7.wa b7.wn b7.wc, fl b7.fall.x, fl b7.fall.y, fl b7.fall.z]) hS rfl rfl rfl rfl rfl rfl rfl rfl rfl rfl rfl rfl fun H hS => ?_
 refine E_nil ?_
 refine th_norm ?_
 refine AWp_seq ?_
 refine AWp_E rfl ?_
 refine E_call (vs := [pt b6 0]) rfl rfl rfl rfl rfl rfl rfl (l03Forces_ok b6 0 b1 _ (PV.of (n := 9) (hS.box 5 rfl) rfl rfl) ⟨⟨⟨(hS.sls 0 rfl), h3.1, (by first | omega | decide)⟩, ⟨rows_of (hS.sls 1 rfl) (hS.at (i := 2) rfl) h4, h3.2, (by omega)⟩⟩, ⟨(hS.sls 3 rfl), h5.1, (by first | omega | decide)⟩, ⟨(hS.sls 4 rfl), h5.2, (by first | omega | decide)⟩⟩ (by first | assumption | omega | (rw [hwl]; rw [show i = b.m.ps.length by omega]; assumption))) ?_
 rintro _ H ⟨x13, x14, x15, x16, h17, h18, rfl, rfl, hQ⟩
 have hlh18 := congrArg List.length h18
 have hS := hS.push hQ
 refine ed (sv x13 x16.length x15) rfl rfl (dv_assign rfl) ?_
 refine E_nil ?_
 refine th_norm ?_
 refine AWp_seq ?_
 refine AWp_E rfl ?_
 refine E_call (vs := [pt b12 0]) rfl rfl rfl rfl rfl rfl rfl (l03Forces_ok b12 0 b7 _ (PV.of (n := 9) (hS.box 11 rfl) rfl rfl) ⟨⟨⟨(hS.sls 6 rfl), h9.1, (by first | omega | decide)⟩, ⟨rows_of (hS.sls 7 rfl) (hS.at (i := 8) rfl) h10, h9.2, (by omega)⟩⟩, ⟨(hS.sls 9 rfl), h11.1, (by first | omega | decide)⟩, ⟨(hS.sls 10 rfl), h11.2, (by first | omega | decide)⟩⟩ (by first | assumption | omega | (rw [hwl]; rw [show i = b.m.ps.length by omega]; assumption))) ?_
 rintro _ H ⟨x19, x20, x21, x22, h23, h24, rfl, rfl, hQ⟩
 have hlh24 := congrArg List.length h24
 have hS := hS.push hQ
 refine ed (sv x19 x22.length x21) rfl rfl (dv_assign rfl) ?_
 refine E_nil ?_
 refine th_norm ?_
 refine AWp_seq ?_
 refine AWp_E rfl ?_
 refine ed (fl step) rfl rfl (dv_move rfl) ?_
 refine ed (fl (fop .mul .f32 1073741824 step)) rfl rfl (dv_bin rfl rfl rfl) ?_
 refine ed (fl (fop .div .f32 1065353216 (fop .mul .f32 1073741824 step))) rfl rfl (dv_bin rfl rfl rfl) ?_
 refine ed (fl (fop .div .f32 1065353216 (fop .mul .f32 1073741824 step))) rfl rfl (dv_assign rfl) ?_
 refine E_nil ?_
 refine th_norm ?_
 refine AWp_seq ?_
 refine AWp_E rfl ?_
 refine S_lit (sz := 3) (enc := encV) (xs := ([] : List V3)) (n := 0) hS rfl rfl rfl rfl rfl rfl rfl rfl fun a25 H hS => ?_
 refine ed (sv a25 0 0) rfl rfl (dv_assign rfl) ?_
 refine E_nil ?_
 refine th_norm ?_
 refine AWp_seq ?_
 refine AWp_seq ?_
 refine AWp_E rfl ?_
 refine ed (sv x13 x16.length x15) rfl rfl (dv_move rfl) ?_
 refine ed (iv ((x16.length : Nat) : Int)) rfl rfl (dv_len rfl rfl rfl rfl rfl) ?_
 refine ed (iv 0) rfl rfl (dv_move rfl) ?_
 refine E_nil ?_
 refine th_norm ?_
 refine AWp_block ?_
 obtain ⟨I26, hI26⟩ : ∃ I : Nat → Env → AH → Prop, ∀ m_ e_ Hl, I m_ e_ Hl = (∃ (wa : Option Addr) (wc : Nat) (w : List (V3)) (i : Nat), m_ = x16.length - i ∧ AllE [(0, pt b_p b_o), (1, sv held_a held_n held_c), (2, sv v_a v_n v_c), (3, fl step), (8, sv none 0 0), (9, pt b6 0), (10, pt b12 0), (11, sv x13 x16.length x15), (12, sv x19 x22.length x21), (13, fl (fop .div .f32 1065353216 (fop .mul .f32 1073741824 step))), (14, sv wa w.length wc), (16, pt b_p b_o), (17, sv v_a v_n v_c), (18, fl step), (19, fl (fneg .f32 step)), (20, bva b1), (21, pt b_p b_o), (22, sv v_a v_n v_c), (23, fl step), (24, bva b7), (25, sv x13 x16.length x15), (26, sv x19 x22.length x21), (27, fl step), (28, fl (fop .mul .f32 1073741824 step)), (29, fl (fop .div .f32 1065353216 (fop .mul .f32 1073741824 step))), (30, sv a25 0 0), (31, sv x13 x16.length x15), (32, iv ((x16.length : Nat) : Int)), (33, iv ((i : Nat) : Int))] e_ ∧ SepL H0 [sl encV 41 3 b1.m.pa b1.m.pc b1.m.ps, sl encR 53 1 b1.m.ta b1.m.tc b1.m.ts, rowsE 2 b1.m.ts, sl encS 116 4 b1.sa b1.sc b1.ss, sl encF 27 1 b1.wa b1.wc b1.ws, box b6 [sv b1.m.pa b1.m.pn b1.m.pc, sv b1.m.ta b1.m.tn b1.m.tc, sv b1.sa b1.sn b1.sc, fl b1.film, fl b1.bend, sv b1.wa b1.wn b1.wc, fl b1.fall.x, fl b1.fall.y, fl b1.fall.z] 43, sl encV 41 3 b7.m.pa b7.m.pc b7.m.ps, sl encR 53 1 b7.m.ta b7.m.tc b7.m.ts, rowsE 2 b7.m.ts, sl encS 116 4 b7.sa b7.sc b7.ss, sl encF 27 1 b7.wa b7.wc b7.ws, box b12 [sv b7.m.pa b7.m.pn b7.m.pc, sv b7.m.ta b7.m.tn b7.m.tc, sv b7.sa b7.sn b7.sc, fl b7.film, fl b7.bend, sv b7.wa b7.wn b7.wc, fl b7.fall.x, fl b7.fall.y, fl b7.fall.z] 43, sl encV 41 3 x13 x15 x16, sl encV 41 3 x19 x21 x22, sl encV 41 3 wa wc w] Hl ∧ (i ≤ x16.length) ∧ (w = (List.range i).map fun i => vscale (vsub (x16.getD i v0) (x22.getD i v0)) (fdiv one32 (fmul two32 step))) ∧ (w.length = i)) := ⟨_, fun _ _ _ => rfl⟩
 refine AWp_loop I26 (x16.length - (0)) ?_ ?_
 ·
  rw [hI26]
  refine ⟨a25, 0, ([] : List V3), 0, rfl, (all_c rfl (all_c rfl (all_c rfl (all_c rfl (all_c rfl (all_c rfl (all_c rfl (all_c rfl (all_c rfl (all_c rfl (all_c rfl (all_c rfl (all_c rfl (all_c rfl (all_c rfl (all_c rfl (all_c rfl (all_c rfl (all_c rfl (all_c rfl (all_c rfl (all_c rfl (all_c rfl (all_c rfl (all_c rfl (all_c rfl (all_c rfl (all_c rfl (all_c rfl all_n))))))))))))))))))))))))))))), hS, ?_, ?_, ?_⟩
  · omega
  · rfl
  · rfl
 ·
  intro m27 _ H hl28
  rw [hI26] at hl28
  obtain ⟨wa, wc, w, i, hm29, he30, hS, hi, hw, hwl⟩ := hl28
  obtain ⟨e31, rfl⟩ := he30.ex
  refine AWp_seq ?_
  refine AWp_E rfl ?_
  rcases Decidable.em (((i : Nat) : Int) < ((x16.length : Nat) : Int)) with hc32 | hc32
  ·
   refine ed yes rfl rfl (dv_bin rfl rfl (bi_lss_t hc32)) ?_
   refine E_nil ?_
   refine th_norm ?_
   refine AWp_seq ?_
   refine AWp_cond (t := true) rfl (fun _ => ?_) nofun
   refine AWp_skip ?_
   refine th_norm ?_
   refine AWp_seq ?_
   refine AWp_block ?_
   refine AWp_seq ?_
   refine AWp_E rfl ?_
   refine ed (iv ((i : Nat) : Int)) rfl rfl (dv_move rfl) ?_
   refine ed (iv ((i : Nat) : Int)) rfl rfl (dv_assign rfl) ?_
   refine E_nil ?_
   refine th_norm ?_
   obtain ⟨Hx, hK, hKx, hM, hR⟩ := hS.split [14] rfl
   have hB := fun Hc (hc : Keep Hx Hc) => hR [] Hc (.base hc)
   refine AWp_D hKx rfl (by decide +kernel) ?_
   refine wd (sv wa w.length wc) rfl rfl (fun _ hc => dv_move rfl) ?_
   refine wd (sv x13 x16.length x15) rfl rfl (fun _ hc => dv_move rfl) ?_
   refine wd (iv ((i : Nat) : Int)) rfl rfl (fun _ hc => dv_move rfl) ?_
   obtain ⟨x33, hx33⟩ := get_el (xs := x16) (i := i) (by omega)
   refine wd (sp x13 (i * 3)) rfl rfl (fun _ hc => dv_indexAddr (a := sv x13 x16.length x15) (b := iv ((i : Nat) : Int)) rfl rfl (ix_sls (n := x16.length) (i := i) ((hB _ hc).sls 12 rfl) hx33 rfl rfl rfl (get_lt hx33))) ?_
   refine wd (va x33) rfl rfl (fun _ hc => dv_load rfl (ld_slsA (sz := 3) (m := 3) (ys := [fl x33.x, fl x33.y, fl x33.z]) (off := 0) ((hB _ hc).sls 12 rfl) hx33 (fun _ => rfl) rfl rfl (Nat.le_of_ble_eq_true rfl) rfl)) ?_
   refine wd (sv x19 x22.length x21) rfl rfl (fun _ hc => dv_move rfl) ?_
   refine wd (iv ((i : Nat) : Int)) rfl rfl (fun _ hc => dv_move rfl) ?_
   obtain ⟨x34, hx34⟩ := get_el (xs := x22) (i := i) (by omega)
   refine wd (sp x19 (i * 3)) rfl rfl (fun _ hc => dv_indexAddr (a := sv x19 x22.length x21) (b := iv ((i : Nat) : Int)) rfl rfl (ix_sls (n := x22.length) (i := i) ((hB _ hc).sls 13 rfl) hx34 rfl rfl rfl (get_lt hx34))) ?_
   refine wd (va x34) rfl rfl (fun _ hc => dv_load rfl (ld_slsA (sz := 3) (m := 3) (ys := [fl x34.x, fl x34.y, fl x34.z]) (off := 0) ((hB _ hc).sls 13 rfl) hx34 (fun _ => rfl) rfl rfl (Nat.le_of_ble_eq_true rfl) rfl)) ?_
   refine W_call (vs := [va x33, va x34]) rfl rfl rfl rfl rfl rfl rfl (l01Less_ok x33 x34 _) ?_
   rintro _ H ⟨v35, rfl, rfl, hQ⟩
   have hM := hM.up hQ.keep
   refine ⟨hM.keep, ?_⟩
   refine wd (fl (fop .div .f32 1065353216 (fop .mul .f32 1073741824 step))) rfl rfl (fun _ hc => dv_move rfl) ?_
   refine W_call (vs := [.agg #[fl ((vsub x33 x34).x), fl ((vsub x33 x34).y), fl ((vsub x33 x34).z)], fl (fop .div .f32 1065353216 (fop .mul .f32 1073741824 step))]) rfl rfl rfl rfl rfl rfl rfl (l01Scale_ok (vsub x33 x34) (fop .div .f32 1065353216 (fop .mul .f32 1073741824 step)) _) ?_
   rintro _ H ⟨v36, h37, rfl, hQ⟩
   have hM := hM.up hQ.keep
   refine ⟨hM.keep, ?_⟩
   refine D_lit (sz := 3) (enc := encV) (xs := ([v36] : List (V3))) (n := 1) hM rfl rfl rfl rfl rfl rfl rfl rfl fun a38 H hM => ?_
   refine D_append (k := 0) (bytes := 12) (enc := encV) (xs := w) (ys := ([v36] : List (V3))) hM rfl rfl rfl rfl rfl rfl rfl rfl rfl rfl (fun _ => rfl) (fun _ => rfl) rfl rfl rfl rfl ((hR _ _ hM).sls 15 rfl) (by omega) (by omega) fun a39 c40 x41 H hx42 hn43 hM => ?_
   refine wd (sv a39 x41.length c40) rfl rfl (fun _ hc => dv_assign rfl) ?_
   have hS := hR _ _ hM
   refine W_nil ?_
   refine bl_norm ?_
   refine th_norm ?_
   refine AWp_E rfl ?_
   refine ed (iv ((i + 1 : Nat) : Int)) rfl rfl (dv_bin rfl rfl (bi_add (by omega))) ?_
   refine ed (iv ((i + 1 : Nat) : Int)) rfl rfl (dv_move rfl) ?_
   refine E_nil ?_
   refine loop_next (I := I26) (x16.length - (i + 1)) (by rw [hm29]; omega) ?_
   rw [hI26]
   refine ⟨a39, c40, x41, i + 1, rfl, (all_c rfl (all_c rfl (all_c rfl (all_c rfl (all_c rfl (all_c rfl (all_c rfl (all_c rfl (all_c rfl (all_c rfl (all_c rfl (all_c rfl (all_c rfl (all_c rfl (all_c rfl (all_c rfl (all_c rfl (all_c rfl (all_c rfl (all_c rfl (all_c rfl (all_c rfl (all_c rfl (all_c rfl (all_c rfl (all_c rfl (all_c rfl (all_c rfl (all_c rfl all_n))))))))))))))))))))))))))))), (hS.pick [0, 1, 2, 3, 4, 5, 6, 7, 8, 9, 10, 11, 12, 13, 14] rfl), ?_, ?_, ?_⟩
   · omega
   · rw [hx42, hw, range_step, gD v0 hx33, gD v0 hx34]
     simp only [h37]
   · omega
  ·
   refine ed no rfl rfl (dv_bin rfl rfl (bi_lss_f hc32)) ?_
   refine E_nil ?_
   refine th_norm ?_
   refine AWp_seq ?_
   refine AWp_cond (t := false) rfl nofun (fun _ => ?_)
   refine AWp_exit (th_exit (th_exit (bl_exit (?_))))
   refine th_norm ?_
   refine AWp_seq ?_
   refine AWp_E rfl ?_
   refine ed (sv wa w.length wc) rfl rfl (dv_move rfl) ?_
   refine ed (sv held_a held_n held_c) rfl rfl (dv_move rfl) ?_
   refine E_call (vs := [sv wa w.length wc, sv held_a held_n held_c]) rfl rfl rfl rfl rfl rfl rfl (l09Freed_ok wa w.length wc w held_a held_n held_c held _ ⟨(hS.sls 14 rfl), rfl, (by first | omega | decide)⟩ (hheld.keep hS.keep) (by first | assumption | omega | (rw [hwl]; rw [show i = b.m.ps.length by omega]; assumption))) ?_
   rintro _ H ⟨x44, x45, x46, x47, h48, h49, rfl, rfl, hQ⟩
   have hlh49 := congrArg List.length h49
   have hS := hS.push hQ
   refine ed (sv x44 x47.length x46) rfl rfl (dv_assign rfl) ?_
   refine E_nil ?_
   refine th_norm ?_
   refine AWp_ret (?_)
   refine ret_of ?_
   refine readsRes_of (rs := [.tmp 8]) (vs := [sv x44 x47.length x46]) rfl (re_cons (re_tmp rfl) (re_nil)) rfl ?_
   refine ⟨x44, x47.length, x46, x47, ?_, ?_, rfl, rfl, hS.pick [15] rfl⟩
   · omega
   · have hii : i = v.length := by omega
     rw [h49, hw, hii, h18, h24, h2, h8]; rfl
theorem l09Rayleigh_ok (b_p b_o : Nat) (b : LB) (held_a : Option Addr) (held_n held_c : Nat) (held : List (Int)) (v_a : Option Addr) (v_n v_c : Nat) (v : List (V3)) (step : Nat) (H : AH) (hbpv : PV H b_p b_o b.v) (hb : b.ok H) (hheld : VS H encI held_a held_n held) (hv : VS H encV v_a v_n v) (hb0 : Bod.ok b.d) (hv0 : v.length = b.m.ps.length) (hp0 : heldP b.m.ps.length held) : ACalls Tryz.prog 64 [pt b_p b_o, sv held_a held_n held_c, sv v_a v_n v_c, fl step] H
  (fun r H' => (∃ (v0_ : Nat), rayP v ∧ rayD b.d held v step = v0_ ∧ r = .tuple #[fl v0_, yes] ∧ SepL H [] H') ∨ (∃ (v0_ : Nat), ¬(rayP v) ∧ 0 = v0_ ∧ r = .tuple #[fl v0_, no] ∧ SepL H [] H')) := by
 refine ACalls_of Tryz.func64 rfl (Nat.le_of_ble_eq_true rfl) ?_
 obtain ⟨H0, hH0⟩ : ∃ H0, H0 = H := ⟨_, rfl⟩
 have hS : SepL H0 [] H := hH0 ▸ SepL.refl H
 subst hH0
 obtain ⟨⟨hb_1_ps, hb_1_pn, hb_1_pb⟩, hb_1_ts, hb_1_tn, hb_1_tb⟩ := id hb.1
 obtain ⟨⟨hb_ss, hb_sn, hb_sb⟩, hb_ws, hb_wn, hb_wb⟩ := hb.2
 obtain ⟨hheld_s, hheld_n, hheld_b⟩ := id hheld
 obtain ⟨hv_s, hv_n, hv_b⟩ := id hv
 have hbn : b.m.ps.length ≤ 64 := hb0.1.1
 refine AWp_seq ?_
 refine AWp_E rfl ?_
 refine ed (fl 0) rfl rfl (dv_assign rfl) ?_
 refine ed no rfl rfl (dv_assign rfl) ?_
 refine E_nil ?_
 refine th_norm ?_
 refine AWp_seq ?_
 refine AWp_E rfl ?_
 refine ed (sv v_a v_n v_c) rfl rfl (dv_move rfl) ?_
 refine ed (sv v_a v_n v_c) rfl rfl (dv_move rfl) ?_
 refine E_call (vs := [sv v_a v_n v_c, sv v_a v_n v_c]) rfl rfl rfl rfl rfl rfl rfl (l05Inner_ok v_a v_n v_c v v_a v_n v_c v _ (hv.keep hS.keep) (hv.keep hS.keep) (by first | assumption | omega | (simp only [*]; assumption) | (simp_all; done))) ?_
 rintro _ H ⟨v1, rfl, rfl, hQ⟩
 have hS := hS.up hQ.keep
 refine ed (fl (innerD v v)) rfl rfl (dv_assign rfl) ?_
 refine E_nil ?_
 refine th_norm ?_
 refine AWp_seq ?_
 refine AWp_seq ?_
 refine AWp_E rfl ?_
 refine ed (fl (innerD v v)) rfl rfl (dv_move rfl) ?_
 rcases Bool.eq_false_or_eq_true (fgt .f32 (innerD v v) 0) with hc2 | hc2
 ·
  refine ed yes rfl rfl (dv_bin rfl rfl (isB bf_gtr hc2)) ?_
  refine ed no rfl rfl (dv_un rfl rfl) ?_
  refine E_nil ?_
  refine th_norm ?_
  refine AWp_cond (t := false) rfl nofun (fun _ => ?_)
  refine AWp_skip ?_
  refine th_norm ?_
  refine AWp_seq ?_
  refine AWp_E rfl ?_
  refine ed (sv v_a v_n v_c) rfl rfl (dv_move rfl) ?_
  refine ed (pt b_p b_o) rfl rfl (dv_move rfl) ?_
  refine ed (sv held_a held_n held_c) rfl rfl (dv_move rfl) ?_
  refine ed (sv v_a v_n v_c) rfl rfl (dv_move rfl) ?_
  refine ed (fl step) rfl rfl (dv_move rfl) ?_
  refine E_call (vs := [pt b_p b_o, sv held_a held_n held_c, sv v_a v_n v_c, fl step]) rfl rfl rfl rfl rfl rfl rfl (l09Times_ok b_p b_o b held_a held_n held_c held v_a v_n v_c v step _ (hbpv.keep hS.keep) (hb.keep hS.keep) (hheld.keep hS.keep) (hv.keep hS.keep) hb0 hv0 hp0) ?_
  rintro _ H ⟨x3, x4, x5, x6, h7, h8, rfl, rfl, hQ⟩
  have hlh8 := congrArg List.length h8
  have hS := hS.push hQ
  refine E_call (vs := [sv v_a v_n v_c, sv x3 x6.length x5]) rfl rfl rfl rfl rfl rfl rfl (l05Inner_ok v_a v_n v_c v x3 x6.length x5 x6 _ (hv.keep hS.keep) ⟨(hS.sls 0 rfl), rfl, (by first | omega | decide)⟩ (by first | assumption | omega | (simp only [*]; assumption) | (simp_all; done))) ?_
  rintro _ H ⟨v9, rfl, rfl, hQ⟩
  have hS := hS.up hQ.keep
  refine ed (fl (innerD v v)) rfl rfl (dv_move rfl) ?_
  refine ed (fl (fop .div .f32 (innerD v x6) (innerD v v))) rfl rfl (dv_bin rfl rfl rfl) ?_
  refine ed (fl (fop .div .f32 (innerD v x6) (innerD v v))) rfl rfl (dv_assign rfl) ?_
  refine ed yes rfl rfl (dv_assign rfl) ?_
  refine E_nil ?_
  refine th_norm ?_
  refine AWp_ret (?_)
  refine ret_of ?_
  refine readsRes_of (rs := [.tmp 8, .tmp 9]) (vs := [fl (fop .div .f32 (innerD v x6) (innerD v v)), yes]) rfl (re_cons (re_tmp rfl) (re_cons (re_tmp rfl) (re_nil))) rfl ?_
  refine .inl ?_
  refine ⟨(fop .div .f32 (innerD v x6) (innerD v v)), ?_, ?_, rfl, .base hS.keep⟩
  · exact hc2
  · rw [h8]; rfl
 ·
  refine ed no rfl rfl (dv_bin rfl rfl (isB bf_gtr hc2)) ?_
  refine ed yes rfl rfl (dv_un rfl rfl) ?_
  refine E_nil ?_
  refine th_norm ?_
  refine AWp_cond (t := true) rfl (fun _ => ?_) nofun
  refine AWp_seq ?_
  refine AWp_E rfl ?_
  refine ed (fl 0) rfl rfl (dv_assign rfl) ?_
  refine ed no rfl rfl (dv_assign rfl) ?_
  refine E_nil ?_
  refine th_norm ?_
  refine AWp_ret (th_ret (?_))
  refine ret_of ?_
  refine readsRes_of (rs := [.tmp 8, .tmp 9]) (vs := [fl 0, no]) rfl (re_cons (re_tmp rfl) (re_cons (re_tmp rfl) (re_nil))) rfl ?_
  refine .inr (?_)
  refine ⟨0, ?_, ?_, rfl, .base hS.keep⟩
  · unfold rayP; rw [hc2]; decide
  · rfl
end Go.Ab

set_option maxRecDepth 100000
set_option maxHeartbeats 4000000
namespace Go.Ab
open Go.Proofs
theorem IsHeld_ok (b : LB) (held_a : Option Addr) (held_n held_c : Nat) (held : List (Int)) (H : AH) (hb : b.ok H) (hheld : VS H encI held_a held_n held) : ACalls Tryz.prog 93 [bva b, sv held_a held_n held_c] H
  (fun r H' => ((Bod.ok b.d ∧ heldP b.m.ps.length held) ∧ r = yes ∧ SepL H [] H') ∨ ((¬(Bod.ok b.d ∧ heldP b.m.ps.length held)) ∧ r = no ∧ SepL H [] H')) := by
 refine ACalls_of Tryz.func93 rfl (Nat.le_of_ble_eq_true rfl) ?_
 obtain ⟨H0, hH0⟩ : ∃ H0, H0 = H := ⟨_, rfl⟩
 have hS : SepL H0 [] H := hH0 ▸ SepL.refl H
 subst hH0
 obtain ⟨⟨hb_1_ps, hb_1_pn, hb_1_pb⟩, hb_1_ts, hb_1_tn, hb_1_tb⟩ := id hb.1
 obtain ⟨⟨hb_ss, hb_sn, hb_sb⟩, hb_ws, hb_wn, hb_wb⟩ := hb.2
 obtain ⟨hheld_s, hheld_n, hheld_b⟩ := id hheld
 refine AWp_seq ?_
 refine AWp_E rfl ?_
 refine S_box (l := [sv b.m.pa b.m.pn b.m.pc, sv b.m.ta b.m.tn b.m.tc, sv b.sa b.sn b.sc, fl b.film, fl b.bend, sv b.wa b.wn b.wc, fl b.fall.x, fl b.fall.y, fl b.fall.z]) hS rfl rfl rfl rfl rfl fun b1 H hS => ?_
 refine ed no rfl rfl (dv_assign rfl) ?_
 refine E_nil ?_
 refine th_norm ?_
 refine AWp_seq ?_
 refine AWp_seq ?_
 refine AWp_E rfl ?_
 refine ed (bva b) rfl rfl (dv_load rfl (ld_boxA (n := 9) (hS.box 0 rfl) rfl rfl (Nat.le_of_ble_eq_true rfl) rfl)) ?_
 refine E_call (vs := [bva b]) rfl rfl rfl rfl rfl rfl rfl (ValidBody_ok b _ (hb.keep hS.keep)) ?_
 rintro _ H (⟨h2, rfl, hQ⟩ | ⟨h3, rfl, hQ⟩)
 ·
  have hS := hS.up hQ.keep
  refine ed no rfl rfl (dv_un rfl rfl) ?_
  refine E_nil ?_
  refine th_norm ?_
  refine AWp_cond (t := false) rfl nofun (fun _ => ?_)
  refine AWp_skip ?_
  refine th_norm ?_
  refine AWp_seq ?_
  refine AWp_E rfl ?_
  refine ed (iv (-1)) rfl rfl (dv_assign rfl) ?_
  refine E_nil ?_
  refine th_norm ?_
  refine AWp_seq ?_
  refine AWp_seq ?_
  refine AWp_E rfl ?_
  refine ed (sv held_a held_n held_c) rfl rfl (dv_move rfl) ?_
  refine ed (iv ((held_n : Nat) : Int)) rfl rfl (dv_len rfl rfl rfl rfl rfl) ?_
  refine ed (iv 0) rfl rfl (dv_move rfl) ?_
  refine E_nil ?_
  refine th_norm ?_
  refine AWp_block ?_
  obtain ⟨I4, hI4⟩ : ∃ I : Nat → Env → AH → Prop, ∀ m_ e_ Hl, I m_ e_ Hl = (∃ (t4 : Bool) (last : Int) (i : Nat), m_ = held_n - i ∧ AllE [(0, bva b), (1, sv held_a held_n held_c), (2, pt b1 0), (4, .bool t4), (5, iv last), (8, bva b), (9, yes), (10, no), (11, sv held_a held_n held_c), (12, iv ((held_n : Nat) : Int)), (13, iv ((i : Nat) : Int))] e_ ∧ SepL H0 [box b1 [sv b.m.pa b.m.pn b.m.pc, sv b.m.ta b.m.tn b.m.tc, sv b.sa b.sn b.sc, fl b.film, fl b.bend, sv b.wa b.wn b.wc, fl b.fall.x, fl b.fall.y, fl b.fall.z] 43] Hl ∧ (i ≤ held_n) ∧ (heldJ b.m.ps.length held i) ∧ ((i = 0 ∧ last = -1) ∨ (0 < i ∧ held[i - 1]? = some last)) ∧ (-1 ≤ last ∧ last < 1048576)) := ⟨_, fun _ _ _ => rfl⟩
  refine AWp_loop I4 (held_n - (0)) ?_ ?_
  ·
   rw [hI4]
   refine ⟨false, -1, 0, rfl, (all_c rfl (all_c rfl (all_c rfl (all_c rfl (all_c rfl (all_c rfl (all_c rfl (all_c rfl (all_c rfl (all_c rfl (all_c rfl all_n))))))))))), hS, ?_, ?_, ?_, ?_⟩
   · omega
   · exact heldJ_zero _ _
   · exact .inl ⟨rfl, rfl⟩
   · omega
  ·
   intro m5 _ H hl6
   rw [hI4] at hl6
   obtain ⟨t4, last, i, hm7, he8, hS, hi, hJ, hlast, hlb⟩ := hl6
   obtain ⟨e9, rfl⟩ := he8.ex
   refine AWp_seq ?_
   refine AWp_E rfl ?_
   rcases Decidable.em (((i : Nat) : Int) < ((held_n : Nat) : Int)) with hc10 | hc10
   ·
    refine ed yes rfl rfl (dv_bin rfl rfl (bi_lss_t hc10)) ?_
    refine E_nil ?_
    refine th_norm ?_
    refine AWp_seq ?_
    refine AWp_cond (t := true) rfl (fun _ => ?_) nofun
    refine AWp_skip ?_
    refine th_norm ?_
    refine AWp_seq ?_
    refine AWp_block ?_
    refine AWp_seq ?_
    refine AWp_E rfl ?_
    obtain ⟨x11, hx11⟩ := get_el (xs := held) (i := i) (by omega)
    refine ed (sp held_a (i * 1)) rfl rfl (dv_indexAddr (a := sv held_a held_n held_c) (b := iv ((i : Nat) : Int)) rfl rfl (ix_sls (n := held_n) (i := i) (hheld_s.keep hS.keep) hx11 rfl rfl rfl (by omega))) ?_
    refine ed (iv x11) rfl rfl (dv_load rfl (ld_sls (sz := 1) (off := 0) (hheld_s.keep hS.keep) hx11 (fun _ => rfl) rfl rfl rfl)) ?_
    refine ed (iv x11) rfl rfl (dv_assign rfl) ?_
    refine E_nil ?_
    refine th_norm ?_
    refine AWp_seq ?_
    refine AWp_seq ?_
    refine AWp_E rfl ?_
    refine ed (iv x11) rfl rfl (dv_move rfl) ?_
    refine ed (iv last) rfl rfl (dv_move rfl) ?_
    refine ed (iv (last + 1)) rfl rfl (dv_bin rfl rfl (bi_add (by omega))) ?_
    refine ed (pt b1 0) rfl rfl (dv_fieldAddr rfl rfl) ?_
    refine ed (pt b1 0) rfl rfl (dv_fieldAddr rfl rfl) ?_
    refine ed (sv b.m.pa b.m.pn b.m.pc) rfl rfl (dv_load rfl (ld_box (hS.box 0 rfl) rfl rfl rfl)) ?_
    refine ed (iv ((b.m.pn : Nat) : Int)) rfl rfl (dv_len rfl rfl rfl rfl rfl) ?_
    refine ed (iv (((b.m.pn : Nat) : Int) - 1)) rfl rfl (dv_bin rfl rfl (bi_sub (by omega))) ?_
    refine E_call (vs := [iv x11, iv (last + 1), iv (((b.m.pn : Nat) : Int) - 1)]) rfl rfl rfl rfl rfl rfl rfl (within_ok x11 (last + 1) (((b.m.pn : Nat) : Int) - 1) _) ?_
    rintro _ H (⟨h12, rfl, hQ⟩ | ⟨h13, rfl, hQ⟩)
    ·
     have hS := hS.up hQ.keep
     refine ed no rfl rfl (dv_un rfl rfl) ?_
     refine E_nil ?_
     refine th_norm ?_
     refine AWp_cond (t := false) rfl nofun (fun _ => ?_)
     refine AWp_skip ?_
     refine th_norm ?_
     refine AWp_E rfl ?_
     refine ed (iv x11) rfl rfl (dv_move rfl) ?_
     refine ed (iv x11) rfl rfl (dv_assign rfl) ?_
     refine E_nil ?_
     refine bl_norm ?_
     refine th_norm ?_
     refine AWp_E rfl ?_
     refine ed (iv ((i + 1 : Nat) : Int)) rfl rfl (dv_bin rfl rfl (bi_add (by omega))) ?_
     refine ed (iv ((i + 1 : Nat) : Int)) rfl rfl (dv_move rfl) ?_
     refine E_nil ?_
     refine loop_next (I := I4) (held_n - (i + 1)) (by rw [hm7]; omega) ?_
     rw [hI4]
     refine ⟨t4, x11, i + 1, rfl, (all_c rfl (all_c rfl (all_c rfl (all_c rfl (all_c rfl (all_c rfl (all_c rfl (all_c rfl (all_c rfl (all_c rfl (all_c rfl all_n))))))))))), hS, ?_, ?_, ?_, ?_⟩
     · omega
     · refine heldJ_step hJ hx11 (by unfold inP; omega) fun j q hj hq => ?_
       subst hj
       rcases hlast with h1 | h1
       · omega
       · have h2 := h1.2
         rw [show j + 1 - 1 = j by omega, hq] at h2; injection h2 with h2; omega
     · exact .inr ⟨by omega, by simpa using hx11⟩
     · omega
    ·
     have hS := hS.up hQ.keep
     refine ed yes rfl rfl (dv_un rfl rfl) ?_
     refine E_nil ?_
     refine th_norm ?_
     refine AWp_cond (t := true) rfl (fun _ => ?_) nofun
     refine AWp_seq ?_
     refine AWp_E rfl ?_
     refine ed no rfl rfl (dv_assign rfl) ?_
     refine E_nil ?_
     refine th_norm ?_
     refine AWp_ret (th_ret (bl_ret (th_ret (th_ret (bl_ret (th_ret (?_)))))))
     refine ret_of ?_
     refine readsRes_of (rs := [.tmp 4]) (vs := [no]) rfl (re_cons (re_tmp rfl) (re_nil)) rfl ?_
     refine .inr (?_)
     refine ⟨?_, rfl, .base hS.keep⟩
     · intro hh
       refine heldP_no hx11 (fun h0 => ?_) hh.2
       unfold inP at h0
       rcases hlast with h1 | h1
       · omega
       · have h2 := h0.2 (i - 1) last (by omega) h1.2; omega
   ·
    refine ed no rfl rfl (dv_bin rfl rfl (bi_lss_f hc10)) ?_
    refine E_nil ?_
    refine th_norm ?_
    refine AWp_seq ?_
    refine AWp_cond (t := false) rfl nofun (fun _ => ?_)
    refine AWp_exit (th_exit (th_exit (bl_exit (?_))))
    refine th_norm ?_
    refine AWp_seq ?_
    refine AWp_E rfl ?_
    refine ed yes rfl rfl (dv_assign rfl) ?_
    refine E_nil ?_
    refine th_norm ?_
    refine AWp_ret (?_)
    refine ret_of ?_
    refine readsRes_of (rs := [.tmp 4]) (vs := [yes]) rfl (re_cons (re_tmp rfl) (re_nil)) rfl ?_
    refine .inl ?_
    refine ⟨?_, rfl, .base hS.keep⟩
    · have hii : i = held.length := by omega
      exact ⟨by assumption, by unfold heldP; rw [← hii]; exact hJ⟩
 ·
  have hS := hS.up hQ.keep
  refine ed yes rfl rfl (dv_un rfl rfl) ?_
  refine E_nil ?_
  refine th_norm ?_
  refine AWp_cond (t := true) rfl (fun _ => ?_) nofun
  refine AWp_seq ?_
  refine AWp_E rfl ?_
  refine ed no rfl rfl (dv_assign rfl) ?_
  refine E_nil ?_
  refine th_norm ?_
  refine AWp_ret (th_ret (?_))
  refine ret_of ?_
  refine readsRes_of (rs := [.tmp 4]) (vs := [no]) rfl (re_cons (re_tmp rfl) (re_nil)) rfl ?_
  refine .inr (?_)
  refine ⟨?_, rfl, .base hS.keep⟩
  · intro hh; simp_all
theorem areFor_ok (b : LB) (held_a : Option Addr) (held_n held_c : Nat) (held : List (Int)) (v_a : Option Addr) (v_n v_c : Nat) (v : List (V3)) (step : Nat) (H : AH) (hb : b.ok H) (hheld : VS H encI held_a held_n held) (hv : VS H encV v_a v_n v) : ACalls Tryz.prog 55 [bva b, sv held_a held_n held_c, sv v_a v_n v_c, fl step] H
  (fun r H' => (canP b.d held v.length step ∧ r = yes ∧ SepL H [] H') ∨ (¬(canP b.d held v.length step) ∧ r = no ∧ SepL H [] H')) := by
 refine ACalls_of Tryz.func55 rfl (Nat.le_of_ble_eq_true rfl) ?_
 obtain ⟨H0, hH0⟩ : ∃ H0, H0 = H := ⟨_, rfl⟩
 have hS : SepL H0 [] H := hH0 ▸ SepL.refl H
 subst hH0
 obtain ⟨⟨hb_1_ps, hb_1_pn, hb_1_pb⟩, hb_1_ts, hb_1_tn, hb_1_tb⟩ := id hb.1
 obtain ⟨⟨hb_ss, hb_sn, hb_sb⟩, hb_ws, hb_wn, hb_wb⟩ := hb.2
 obtain ⟨hheld_s, hheld_n, hheld_b⟩ := id hheld
 obtain ⟨hv_s, hv_n, hv_b⟩ := id hv
 refine AWp_seq ?_
 refine AWp_E rfl ?_
 refine S_box (l := [sv b.m.pa b.m.pn b.m.pc, sv b.m.ta b.m.tn b.m.tc, sv b.sa b.sn b.sc, fl b.film, fl b.bend, sv b.wa b.wn b.wc, fl b.fall.x, fl b.fall.y, fl b.fall.z]) hS rfl rfl rfl rfl rfl fun b1 H hS => ?_
 refine ed no rfl rfl (dv_assign rfl) ?_
 refine E_nil ?_
 refine th_norm ?_
 refine AWp_seq ?_
 refine AWp_E rfl ?_
 refine ed (bva b) rfl rfl (dv_load rfl (ld_boxA (n := 9) (hS.box 0 rfl) rfl rfl (Nat.le_of_ble_eq_true rfl) rfl)) ?_
 refine ed (sv held_a held_n held_c) rfl rfl (dv_move rfl) ?_
 refine E_call (vs := [bva b, sv held_a held_n held_c]) rfl rfl rfl rfl rfl rfl rfl (IsHeld_ok b held_a held_n held_c held _ (hb.keep hS.keep) (hheld.keep hS.keep)) ?_
 rintro _ H (⟨h2, rfl, hQ⟩ | ⟨h3, rfl, hQ⟩)
 ·
  have hS := hS.up hQ.keep
  refine ed yes rfl rfl (dv_move rfl) ?_
  refine ed (sv v_a v_n v_c) rfl rfl (dv_move rfl) ?_
  refine ed (iv ((v_n : Nat) : Int)) rfl rfl (dv_len rfl rfl rfl rfl rfl) ?_
  refine ed (pt b1 0) rfl rfl (dv_fieldAddr rfl rfl) ?_
  refine ed (pt b1 0) rfl rfl (dv_fieldAddr rfl rfl) ?_
  refine ed (sv b.m.pa b.m.pn b.m.pc) rfl rfl (dv_load rfl (ld_box (hS.box 0 rfl) rfl rfl rfl)) ?_
  refine ed (iv ((b.m.pn : Nat) : Int)) rfl rfl (dv_len rfl rfl rfl rfl rfl) ?_
  rcases Decidable.em (((v_n : Nat) : Int) = ((b.m.pn : Nat) : Int)) with hc4 | hc4
  ·
   refine ed yes rfl rfl (dv_bin rfl rfl (bi_eql_t hc4)) ?_
   refine ed yes rfl rfl (dv_pick (t := true) rfl rfl) ?_
   refine ed yes rfl rfl (dv_move rfl) ?_
   refine ed (fl step) rfl rfl (dv_move rfl) ?_
   refine E_call (vs := [fl step]) rfl rfl rfl rfl rfl rfl rfl (isOver_ok step _) ?_
   rintro _ H (⟨h5, rfl, hQ⟩ | ⟨h6, rfl, hQ⟩)
   ·
    have hS := hS.up hQ.keep
    refine ed yes rfl rfl (dv_pick (t := true) rfl rfl) ?_
    refine ed yes rfl rfl (dv_assign rfl) ?_
    refine E_nil ?_
    refine th_norm ?_
    refine AWp_ret (?_)
    refine ret_of ?_
    refine readsRes_of (rs := [.tmp 8]) (vs := [yes]) rfl (re_cons (re_tmp rfl) (re_nil)) rfl ?_
    refine .inl ?_
    refine ⟨?_, rfl, .base hS.keep⟩
    · exact ⟨h2.1, h2.2, by show v.length = b.m.ps.length; omega, h5⟩
   ·
    have hS := hS.up hQ.keep
    refine ed no rfl rfl (dv_pick (t := true) rfl rfl) ?_
    refine ed no rfl rfl (dv_assign rfl) ?_
    refine E_nil ?_
    refine th_norm ?_
    refine AWp_ret (?_)
    refine ret_of ?_
    refine readsRes_of (rs := [.tmp 8]) (vs := [no]) rfl (re_cons (re_tmp rfl) (re_nil)) rfl ?_
    refine .inr (?_)
    refine ⟨?_, rfl, .base hS.keep⟩
    · intro hh
      first | exact absurd hh.1 h6 | exact absurd hh.2.1 h6 | exact absurd hh.2.2.2 h6 | exact absurd ⟨hh.1, hh.2.1⟩ h6
  ·
   refine ed no rfl rfl (dv_bin rfl rfl (bi_eql_f hc4)) ?_
   refine ed no rfl rfl (dv_pick (t := true) rfl rfl) ?_
   refine ed no rfl rfl (dv_move rfl) ?_
   refine E_skip rfl rfl ?_
   refine E_skip rfl rfl ?_
   refine ed no rfl rfl (dv_pick (t := false) rfl rfl) ?_
   refine ed no rfl rfl (dv_assign rfl) ?_
   refine E_nil ?_
   refine th_norm ?_
   refine AWp_ret (?_)
   refine ret_of ?_
   refine readsRes_of (rs := [.tmp 8]) (vs := [no]) rfl (re_cons (re_tmp rfl) (re_nil)) rfl ?_
   refine .inr (?_)
   refine ⟨?_, rfl, .base hS.keep⟩
   · intro hh
     have h3 : v.length = b.m.ps.length := hh.2.2.1
     omega
 ·
  have hS := hS.up hQ.keep
  refine ed no rfl rfl (dv_move rfl) ?_
  refine E_skip rfl rfl ?_
  refine E_skip rfl rfl ?_
  refine E_skip rfl rfl ?_
  refine E_skip rfl rfl ?_
  refine E_skip rfl rfl ?_
  refine E_skip rfl rfl ?_
  refine E_skip rfl rfl ?_
  refine ed no rfl rfl (dv_pick (t := false) rfl rfl) ?_
  refine ed no rfl rfl (dv_move rfl) ?_
  refine E_skip rfl rfl ?_
  refine E_skip rfl rfl ?_
  refine ed no rfl rfl (dv_pick (t := false) rfl rfl) ?_
  refine ed no rfl rfl (dv_assign rfl) ?_
  refine E_nil ?_
  refine th_norm ?_
  refine AWp_ret (?_)
  refine ret_of ?_
  refine readsRes_of (rs := [.tmp 8]) (vs := [no]) rfl (re_cons (re_tmp rfl) (re_nil)) rfl ?_
  refine .inr (?_)
  refine ⟨?_, rfl, .base hS.keep⟩
  · intro hh
    first | exact absurd hh.1 h3 | exact absurd hh.2.1 h3 | exact absurd hh.2.2.2 h3 | exact absurd ⟨hh.1, hh.2.1⟩ h3
theorem innerAll_ok (a_a : Option Addr) (a_n a_c : Nat) (a : List (V3)) (b_a : Option Addr) (b_n b_c : Nat) (b : List (V3)) (H : AH) (ha : VS H encV a_a a_n a) (hb : VS H encV b_a b_n b) (hab : a.length ≤ b.length) : ACalls Tryz.prog 102 [sv a_a a_n a_c, sv b_a b_n b_c] H
  (fun r H' => ∃ (v_ : Nat), innerD a b = v_ ∧ r = fl v_ ∧ SepL H [] H') := by
 refine ACalls_of Tryz.func102 rfl (Nat.le_of_ble_eq_true rfl) ?_
 obtain ⟨H0, hH0⟩ : ∃ H0, H0 = H := ⟨_, rfl⟩
 have hS : SepL H0 [] H := hH0 ▸ SepL.refl H
 subst hH0
 obtain ⟨ha_s, ha_n, ha_b⟩ := id ha
 obtain ⟨hb_s, hb_n, hb_b⟩ := id hb
 refine AWp_seq ?_
 refine AWp_E rfl ?_
 refine ed (fl 0) rfl rfl (dv_assign rfl) ?_
 refine E_nil ?_
 refine th_norm ?_
 refine AWp_seq ?_
 refine AWp_E rfl ?_
 refine ed (fl 0) rfl rfl (dv_assign rfl) ?_
 refine E_nil ?_
 refine th_norm ?_
 refine AWp_seq ?_
 refine AWp_seq ?_
 refine AWp_E rfl ?_
 refine ed (sv a_a a_n a_c) rfl rfl (dv_move rfl) ?_
 refine ed (iv ((a_n : Nat) : Int)) rfl rfl (dv_len rfl rfl rfl rfl rfl) ?_
 refine ed (iv 0) rfl rfl (dv_move rfl) ?_
 refine E_nil ?_
 refine th_norm ?_
 refine AWp_block ?_
 obtain ⟨I1, hI1⟩ : ∃ I : Nat → Env → AH → Prop, ∀ m_ e_ Hl, I m_ e_ Hl = (∃ (e : Nat) (i : Nat), m_ = a_n - i ∧ AllE [(0, sv a_a a_n a_c), (1, sv b_a b_n b_c), (4, fl 0), (5, fl e), (8, sv a_a a_n a_c), (9, iv ((a_n : Nat) : Int)), (10, iv ((i : Nat) : Int))] e_ ∧ SepL H0 [] Hl ∧ (i ≤ a_n) ∧ (e = iter (innerAt a b) 0 i)) := ⟨_, fun _ _ _ => rfl⟩
 refine AWp_loop I1 (a_n - (0)) ?_ ?_
 ·
  rw [hI1]
  refine ⟨0, 0, rfl, (all_c rfl (all_c rfl (all_c rfl (all_c rfl (all_c rfl (all_c rfl (all_c rfl all_n))))))), hS, ?_, ?_⟩
  · omega
  · rfl
 ·
  intro m2 _ H hl3
  rw [hI1] at hl3
  obtain ⟨e, i, hm4, he5, hS, hi, he⟩ := hl3
  obtain ⟨e6, rfl⟩ := he5.ex
  refine AWp_seq ?_
  refine AWp_E rfl ?_
  rcases Decidable.em (((i : Nat) : Int) < ((a_n : Nat) : Int)) with hc7 | hc7
  ·
   refine ed yes rfl rfl (dv_bin rfl rfl (bi_lss_t hc7)) ?_
   refine E_nil ?_
   refine th_norm ?_
   refine AWp_seq ?_
   refine AWp_cond (t := true) rfl (fun _ => ?_) nofun
   refine AWp_skip ?_
   refine th_norm ?_
   refine AWp_seq ?_
   refine AWp_block ?_
   refine AWp_seq ?_
   refine AWp_E rfl ?_
   refine ed (iv ((i : Nat) : Int)) rfl rfl (dv_move rfl) ?_
   obtain ⟨x8, hx8⟩ := get_el (xs := a) (i := i) (by omega)
   refine ed (sp a_a (i * 3)) rfl rfl (dv_indexAddr (a := sv a_a a_n a_c) (b := iv ((i : Nat) : Int)) rfl rfl (ix_sls (n := a_n) (i := i) (ha_s.keep hS.keep) hx8 rfl rfl rfl (by omega))) ?_
   refine ed (va x8) rfl rfl (dv_load rfl (ld_slsA (sz := 3) (m := 3) (ys := [fl x8.x, fl x8.y, fl x8.z]) (off := 0) (ha_s.keep hS.keep) hx8 (fun _ => rfl) rfl rfl (Nat.le_of_ble_eq_true rfl) rfl)) ?_
   refine S_box (l := [fl 0, fl 0, fl 0]) hS rfl rfl rfl rfl rfl fun b9 H hS => ?_
   refine ed (iv ((i : Nat) : Int)) rfl rfl (dv_assign rfl) ?_
   refine S_store (i := 0) (yv := va x8) (l' := [fl x8.x, fl x8.y, fl x8.z]) hS rfl rfl rfl rfl rfl rfl rfl rfl rfl rfl rfl rfl fun H hS => ?_
   refine E_nil ?_
   refine th_norm ?_
   have hR := hS.pushes
   have hKb := hS.keep
   have hB := fun Hc (hc : Keep _ Hc) => hR [] Hc (.base hc)
   refine AWp_D0 rfl (by decide +kernel) fun hM => ?_
   refine wd (fl e) rfl rfl (fun _ hc => dv_move rfl) ?_
   refine wd (va x8) rfl rfl (fun _ hc => dv_load rfl (ld_boxA (n := 3) ((hB _ hc).box 0 rfl) rfl rfl (Nat.le_of_ble_eq_true rfl) rfl)) ?_
   refine wd (sv b_a b_n b_c) rfl rfl (fun _ hc => dv_move rfl) ?_
   refine wd (iv ((i : Nat) : Int)) rfl rfl (fun _ hc => dv_move rfl) ?_
   obtain ⟨x10, hx10⟩ := get_el (xs := b) (i := i) (by omega)
   refine wd (sp b_a (i * 3)) rfl rfl (fun _ hc => dv_indexAddr (a := sv b_a b_n b_c) (b := iv ((i : Nat) : Int)) rfl rfl (ix_sls (n := b_n) (i := i) (hb_s.keep (hKb.trans hc)) hx10 rfl rfl rfl (by omega))) ?_
   refine wd (va x10) rfl rfl (fun _ hc => dv_load rfl (ld_slsA (sz := 3) (m := 3) (ys := [fl x10.x, fl x10.y, fl x10.z]) (off := 0) (hb_s.keep (hKb.trans hc)) hx10 (fun _ => rfl) rfl rfl (Nat.le_of_ble_eq_true rfl) rfl)) ?_
   refine W_call (vs := [va x8, va x10]) rfl rfl rfl rfl rfl rfl rfl (InnerOf_ok x8 x10 _) ?_
   rintro _ H ⟨v11, rfl, rfl, hQ⟩
   have hM := hM.up hQ.keep
   refine ⟨hM.keep, ?_⟩
   refine wd (fl (fop .add .f32 e (vinner x8 x10))) rfl rfl (fun _ hc => dv_bin rfl rfl rfl) ?_
   refine wd (fl (fop .add .f32 e (vinner x8 x10))) rfl rfl (fun _ hc => dv_assign rfl) ?_
   have hS := hR _ _ hM
   refine W_nil ?_
   refine bl_norm ?_
   refine th_norm ?_
   refine AWp_E rfl ?_
   refine ed (iv ((i + 1 : Nat) : Int)) rfl rfl (dv_bin rfl rfl (bi_add (by omega))) ?_
   refine ed (iv ((i + 1 : Nat) : Int)) rfl rfl (dv_move rfl) ?_
   refine E_nil ?_
   refine loop_next (I := I1) (a_n - (i + 1)) (by rw [hm4]; omega) ?_
   rw [hI1]
   refine ⟨fop .add .f32 e (vinner x8 x10), i + 1, rfl, (all_c rfl (all_c rfl (all_c rfl (all_c rfl (all_c rfl (all_c rfl (all_c rfl all_n))))))), (hS.pick [] rfl), ?_, ?_⟩
   · omega
   · refine iter_to he ?_
     simp only [innerAt, gD v0 hx8, gD v0 hx10]
  ·
   refine ed no rfl rfl (dv_bin rfl rfl (bi_lss_f hc7)) ?_
   refine E_nil ?_
   refine th_norm ?_
   refine AWp_seq ?_
   refine AWp_cond (t := false) rfl nofun (fun _ => ?_)
   refine AWp_exit (th_exit (th_exit (bl_exit (?_))))
   refine th_norm ?_
   refine AWp_seq ?_
   refine AWp_E rfl ?_
   refine ed (fl e) rfl rfl (dv_move rfl) ?_
   refine ed (fl e) rfl rfl (dv_assign rfl) ?_
   refine E_nil ?_
   refine th_norm ?_
   refine AWp_ret (?_)
   refine ret_of ?_
   refine readsRes_of (rs := [.tmp 4]) (vs := [fl e]) rfl (re_cons (re_tmp rfl) (re_nil)) rfl ?_
   refine ⟨e, ?_, rfl, .base hS.keep⟩
   · have hii : i = a.length := by omega
     rw [he, hii]; rfl
theorem freed_ok (v_a : Option Addr) (v_n v_c : Nat) (v : List (V3)) (held_a : Option Addr) (held_n held_c : Nat) (held : List (Int)) (H : AH) (hv : VS H encV v_a v_n v) (hheld : VS H encI held_a held_n held) (hp0 : heldP v.length held) : ACalls Tryz.prog 67 [sv v_a v_n v_c, sv held_a held_n held_c] H
  (fun r H' => ∃ (x_a : Option Addr), ∃ (x_n : Nat), ∃ (x_c : Nat), ∃ (x_ : List (V3)), x_.length = v.length ∧ x_ = freedD v held ∧ x_.length = x_n ∧ r = sv x_a x_n x_c ∧ SepL H [sl encV 41 3 x_a x_c x_] H') := by
 refine ACalls_of Tryz.func67 rfl (Nat.le_of_ble_eq_true rfl) ?_
 obtain ⟨H0, hH0⟩ : ∃ H0, H0 = H := ⟨_, rfl⟩
 have hS : SepL H0 [] H := hH0 ▸ SepL.refl H
 subst hH0
 obtain ⟨hv_s, hv_n, hv_b⟩ := id hv
 obtain ⟨hheld_s, hheld_n, hheld_b⟩ := id hheld
 refine AWp_seq ?_
 refine AWp_E rfl ?_
 refine ed (sv none 0 0) rfl rfl (dv_assign rfl) ?_
 refine E_nil ?_
 refine th_norm ?_
 refine AWp_seq ?_
 refine AWp_E rfl ?_
 refine S_lit (sz := 3) (enc := encV) (xs := ([] : List V3)) (n := 0) hS rfl rfl rfl rfl rfl rfl rfl rfl fun a1 H hS => ?_
 refine ed (sv v_a v_n v_c) rfl rfl (dv_move rfl) ?_
 refine S_append (k := 0) (bytes := 12) (enc := encV) (xs := ([] : List V3)) (ys := v) hS rfl rfl rfl rfl rfl rfl rfl rfl rfl rfl (fun _ => rfl) (fun _ => rfl) rfl rfl rfl hv_n (hv_s.keep hS.keep) (by omega) (by omega) fun a2 c3 x4 H hx5 hn6 hS => ?_
 refine ed (sv a2 x4.length c3) rfl rfl (dv_assign rfl) ?_
 refine E_nil ?_
 refine th_norm ?_
 refine AWp_seq ?_
 refine AWp_seq ?_
 refine AWp_E rfl ?_
 refine ed (sv held_a held_n held_c) rfl rfl (dv_move rfl) ?_
 refine ed (iv ((held_n : Nat) : Int)) rfl rfl (dv_len rfl rfl rfl rfl rfl) ?_
 refine ed (iv 0) rfl rfl (dv_move rfl) ?_
 refine E_nil ?_
 refine th_norm ?_
 refine AWp_block ?_
 obtain ⟨I7, hI7⟩ : ∃ I : Nat → Env → AH → Prop, ∀ m_ e_ Hl, I m_ e_ Hl = (∃ (i : Nat) (o : List (V3)), m_ = held_n - i ∧ AllE [(0, sv v_a v_n v_c), (1, sv held_a held_n held_c), (4, sv none 0 0), (5, sv a2 x4.length c3), (8, sv a1 0 0), (9, sv v_a v_n v_c), (10, sv a2 x4.length c3), (11, sv held_a held_n held_c), (12, iv ((held_n : Nat) : Int)), (13, iv ((i : Nat) : Int))] e_ ∧ SepL H0 [sl encV 41 3 a2 c3 o] Hl ∧ o.length = x4.length ∧ (i ≤ held_n) ∧ (o = iter (fun i (o : List V3) => o.set (held.getD i 0).toNat v0) v i) ∧ (o.length = v.length)) := ⟨_, fun _ _ _ => rfl⟩
 refine AWp_loop I7 (held_n - (0)) ?_ ?_
 ·
  rw [hI7]
  refine ⟨0, x4, rfl, (all_c rfl (all_c rfl (all_c rfl (all_c rfl (all_c rfl (all_c rfl (all_c rfl (all_c rfl (all_c rfl (all_c rfl all_n)))))))))), hS, rfl, ?_, ?_, ?_⟩
  · omega
  · rw [hx5]; rfl
  · rw [hx5]; simp
 ·
  intro m8 _ H hl9
  rw [hI7] at hl9
  obtain ⟨i, o, hm10, he11, hS, ho_n, hi, ho, hol⟩ := hl9
  obtain ⟨e12, rfl⟩ := he11.ex
  refine AWp_seq ?_
  refine AWp_E rfl ?_
  rcases Decidable.em (((i : Nat) : Int) < ((held_n : Nat) : Int)) with hc13 | hc13
  ·
   refine ed yes rfl rfl (dv_bin rfl rfl (bi_lss_t hc13)) ?_
   refine E_nil ?_
   refine th_norm ?_
   refine AWp_seq ?_
   refine AWp_cond (t := true) rfl (fun _ => ?_) nofun
   refine AWp_skip ?_
   refine th_norm ?_
   refine AWp_seq ?_
   refine AWp_block ?_
   refine AWp_seq ?_
   refine AWp_E rfl ?_
   obtain ⟨x14, hx14⟩ := get_el (xs := held) (i := i) (by omega)
   have hpi := heldP_in hp0 hx14
   unfold inP at hpi
   refine ed (sp held_a (i * 1)) rfl rfl (dv_indexAddr (a := sv held_a held_n held_c) (b := iv ((i : Nat) : Int)) rfl rfl (ix_sls (n := held_n) (i := i) (hheld_s.keep hS.keep) hx14 rfl rfl rfl (by omega))) ?_
   refine ed (iv x14) rfl rfl (dv_load rfl (ld_sls (sz := 1) (off := 0) (hheld_s.keep hS.keep) hx14 (fun _ => rfl) rfl rfl rfl)) ?_
   refine ed (iv x14) rfl rfl (dv_assign rfl) ?_
   refine E_nil ?_
   refine th_norm ?_
   refine AWp_E rfl ?_
   refine ed (sv a2 x4.length c3) rfl rfl (dv_move rfl) ?_
   refine ed (iv x14) rfl rfl (dv_move rfl) ?_
   refine ed (.agg #[fl 0, fl 0, fl 0]) rfl rfl (dv_buildZ (vs := []) rfl rfl rfl rfl rfl rfl) ?_
   obtain ⟨x15, hx15⟩ := get_el (xs := o) (i := (x14).toNat) (by omega)
   refine ed (sp a2 (((x14).toNat) * 3)) rfl rfl (dv_indexAddr (a := sv a2 x4.length c3) (b := iv x14) rfl rfl (ix_sls (n := x4.length) (i := ((x14).toNat)) (hS.sls 0 rfl) hx15 rfl rfl (by omega) (by omega))) ?_
   refine S_storeS (k := 0) (i := ((x14).toNat)) (z' := (⟨0, 0, 0⟩ : V3)) (off := 0) (yv := .agg #[fl 0, fl 0, fl 0]) hS rfl rfl rfl rfl (fun _ => rfl) rfl rfl rfl hx15 rfl rfl rfl rfl fun H hS => ?_
   have hx16 := set_get (z := (⟨0, 0, 0⟩ : V3)) hx15
   refine E_nil ?_
   refine bl_norm ?_
   refine th_norm ?_
   refine AWp_E rfl ?_
   refine ed (iv ((i + 1 : Nat) : Int)) rfl rfl (dv_bin rfl rfl (bi_add (by omega))) ?_
   refine ed (iv ((i + 1 : Nat) : Int)) rfl rfl (dv_move rfl) ?_
   refine E_nil ?_
   refine loop_next (I := I7) (held_n - (i + 1)) (by rw [hm10]; omega) ?_
   rw [hI7]
   refine ⟨i + 1, o.set ((x14).toNat) (⟨0, 0, 0⟩ : V3), rfl, (all_c rfl (all_c rfl (all_c rfl (all_c rfl (all_c rfl (all_c rfl (all_c rfl (all_c rfl (all_c rfl (all_c rfl all_n)))))))))), hS, (by rw [List.length_set]; exact ho_n), ?_, ?_, ?_⟩
   · omega
   · rw [freed_step hx14, ← ho]
     rfl
   · rw [List.length_set]; exact hol
  ·
   refine ed no rfl rfl (dv_bin rfl rfl (bi_lss_f hc13)) ?_
   refine E_nil ?_
   refine th_norm ?_
   refine AWp_seq ?_
   refine AWp_cond (t := false) rfl nofun (fun _ => ?_)
   refine AWp_exit (th_exit (th_exit (bl_exit (?_))))
   refine th_norm ?_
   refine AWp_seq ?_
   refine AWp_E rfl ?_
   refine ed (sv a2 x4.length c3) rfl rfl (dv_move rfl) ?_
   refine ed (sv a2 x4.length c3) rfl rfl (dv_assign rfl) ?_
   refine E_nil ?_
   refine th_norm ?_
   refine AWp_ret (?_)
   refine ret_of ?_
   refine readsRes_of (rs := [.tmp 4]) (vs := [sv a2 x4.length c3]) rfl (re_cons (re_tmp rfl) (re_nil)) rfl ?_
   refine ⟨a2, x4.length, c3, o, ?_, ?_, ho_n, rfl, hS.pick [0] rfl⟩
   · exact hol
   · have hii : i = held.length := by omega
     rw [ho, hii]; rfl
theorem moved_ok (b : LB) (v_a : Option Addr) (v_n v_c : Nat) (v : List (V3)) (k : Nat) (H : AH) (hb : b.ok H) (hv : VS H encV v_a v_n v) (hv0 : v.length = b.m.ps.length) : ACalls Tryz.prog 58 [bva b, sv v_a v_n v_c, fl k] H
  (fun r H' => ∃ (b_ : LB), b_.d = movedD b.d v k ∧ (b_.m.ps.length = b_.m.pn ∧ b_.m.ts.length = b_.m.tn) ∧ (∀ q ∈ b_.m.ts, q.xs.length ≤ 1048576) ∧ (b_.ss.length = b_.sn ∧ b_.ws.length = b_.wn) ∧ r = bva b_ ∧ SepL H [sl encV 41 3 b_.m.pa b_.m.pc b_.m.ps, sl encR 53 1 b_.m.ta b_.m.tc b_.m.ts, rowsE 2 b_.m.ts, sl encS 116 4 b_.sa b_.sc b_.ss, sl encF 27 1 b_.wa b_.wc b_.ws] H') := by
 refine ACalls_of Tryz.func58 rfl (Nat.le_of_ble_eq_true rfl) ?_
 obtain ⟨H0, hH0⟩ : ∃ H0, H0 = H := ⟨_, rfl⟩
 have hS : SepL H0 [] H := hH0 ▸ SepL.refl H
 subst hH0
 obtain ⟨⟨hb_1_ps, hb_1_pn, hb_1_pb⟩, hb_1_ts, hb_1_tn, hb_1_tb⟩ := id hb.1
 obtain ⟨⟨hb_ss, hb_sn, hb_sb⟩, hb_ws, hb_wn, hb_wb⟩ := hb.2
 obtain ⟨hv_s, hv_n, hv_b⟩ := id hv
 refine AWp_seq ?_
 refine AWp_E rfl ?_
 refine S_box (l := [sv b.m.pa b.m.pn b.m.pc, sv b.m.ta b.m.tn b.m.tc, sv b.sa b.sn b.sc, fl b.film, fl b.bend, sv b.wa b.wn b.wc, fl b.fall.x, fl b.fall.y, fl b.fall.z]) hS rfl rfl rfl rfl rfl fun b1 H hS => ?_
 refine S_box (l := [sv none 0 0, sv none 0 0, sv none 0 0, fl 0, fl 0, sv none 0 0, fl 0, fl 0, fl 0]) hS rfl rfl rfl rfl rfl fun b2 H hS => ?_
 refine E_nil ?_
 refine th_norm ?_
 refine AWp_seq ?_
 refine AWp_E rfl ?_
 refine ed (bva b) rfl rfl (dv_load rfl (ld_boxA (n := 9) (hS.box 0 rfl) rfl rfl (Nat.le_of_ble_eq_true rfl) rfl)) ?_
 refine E_call (vs := [bva b]) rfl rfl rfl rfl rfl rfl rfl (copyBody_ok b _ (hb.keep hS.keep)) ?_
 rintro _ H ⟨b3, h4, h5, h6, h7, rfl, hQ⟩
 have hdlh4 : b3.m.ps.length = b.m.ps.length := congrArg (fun d : Bod => d.m.ps.length) h4
 have hdth4 : (rxs b3.m.ts).length = (rxs b.m.ts).length := congrArg (fun d : Bod => d.m.ts.length) h4
 simp only [rxs, List.length_map] at hdth4
 have hdsh4 : b3.ss.length = b.ss.length := congrArg (fun d : Bod => d.ss.length) h4
 have hdwh4 : b3.ws.length = b.ws.length := congrArg (fun d : Bod => d.ws.length) h4
 have hS := hS.push hQ
 refine S_box (l := [sv none 0 0, sv none 0 0, sv none 0 0, fl 0, fl 0, sv none 0 0, fl 0, fl 0, fl 0]) hS rfl rfl rfl rfl rfl fun b8 H hS => ?_
 refine S_store (i := 7) (yv := bva b3) (l' := [sv b3.m.pa b3.m.pn b3.m.pc, sv b3.m.ta b3.m.tn b3.m.tc, sv b3.sa b3.sn b3.sc, fl b3.film, fl b3.bend, sv b3.wa b3.wn b3.wc, fl b3.fall.x, fl b3.fall.y, fl b3.fall.z]) hS rfl rfl rfl rfl rfl rfl rfl rfl rfl rfl rfl rfl fun H hS => ?_
 refine E_nil ?_
 refine th_norm ?_
 refine AWp_seq ?_
 refine AWp_seq ?_
 refine AWp_E rfl ?_
 refine ed (sv v_a v_n v_c) rfl rfl (dv_move rfl) ?_
 refine ed (iv ((v_n : Nat) : Int)) rfl rfl (dv_len rfl rfl rfl rfl rfl) ?_
 refine ed (iv 0) rfl rfl (dv_move rfl) ?_
 refine E_nil ?_
 refine th_norm ?_
 refine AWp_block ?_
 obtain ⟨I9, hI9⟩ : ∃ I : Nat → Env → AH → Prop, ∀ m_ e_ Hl, I m_ e_ Hl = (∃ (i : Nat) (o : List (V3)), m_ = v_n - i ∧ AllE [(0, bva b), (1, sv v_a v_n v_c), (2, fl k), (3, pt b1 0), (6, pt b2 0), (7, pt b8 0), (10, bva b), (11, bva b3), (12, sv v_a v_n v_c), (13, iv ((v_n : Nat) : Int)), (14, iv ((i : Nat) : Int))] e_ ∧ SepL H0 [box b1 [sv b.m.pa b.m.pn b.m.pc, sv b.m.ta b.m.tn b.m.tc, sv b.sa b.sn b.sc, fl b.film, fl b.bend, sv b.wa b.wn b.wc, fl b.fall.x, fl b.fall.y, fl b.fall.z] 43, box b2 [sv none 0 0, sv none 0 0, sv none 0 0, fl 0, fl 0, sv none 0 0, fl 0, fl 0, fl 0] 43, sl encV 41 3 b3.m.pa b3.m.pc o, sl encR 53 1 b3.m.ta b3.m.tc b3.m.ts, rowsE 2 b3.m.ts, sl encS 116 4 b3.sa b3.sc b3.ss, sl encF 27 1 b3.wa b3.wc b3.ws, box b8 [sv b3.m.pa b3.m.pn b3.m.pc, sv b3.m.ta b3.m.tn b3.m.tc, sv b3.sa b3.sn b3.sc, fl b3.film, fl b3.bend, sv b3.wa b3.wn b3.wc, fl b3.fall.x, fl b3.fall.y, fl b3.fall.z] 43] Hl ∧ o.length = b3.m.pn ∧ (i ≤ v_n) ∧ (o = iter (moveAt v k) b.m.ps i)) := ⟨_, fun _ _ _ => rfl⟩
 refine AWp_loop I9 (v_n - (0)) ?_ ?_
 ·
  rw [hI9]
  refine ⟨0, b3.m.ps, rfl, (all_c rfl (all_c rfl (all_c rfl (all_c rfl (all_c rfl (all_c rfl (all_c rfl (all_c rfl (all_c rfl (all_c rfl (all_c rfl all_n))))))))))), hS, h5.1, ?_, ?_⟩
  · omega
  · have hdd := h4; simp only [LB.d, LM.d, Bod.mk.injEq, Msh.mk.injEq] at hdd; exact hdd.1.1
 ·
  intro m10 _ H hl11
  rw [hI9] at hl11
  obtain ⟨i, o, hm12, he13, hS, ho_n, hi, ho⟩ := hl11
  obtain ⟨e14, rfl⟩ := he13.ex
  refine AWp_seq ?_
  refine AWp_E rfl ?_
  rcases Decidable.em (((i : Nat) : Int) < ((v_n : Nat) : Int)) with hc15 | hc15
  ·
   refine ed yes rfl rfl (dv_bin rfl rfl (bi_lss_t hc15)) ?_
   refine E_nil ?_
   refine th_norm ?_
   refine AWp_seq ?_
   refine AWp_cond (t := true) rfl (fun _ => ?_) nofun
   refine AWp_skip ?_
   refine th_norm ?_
   refine AWp_seq ?_
   refine AWp_block ?_
   refine AWp_seq ?_
   refine AWp_E rfl ?_
   refine ed (iv ((i : Nat) : Int)) rfl rfl (dv_move rfl) ?_
   obtain ⟨x16, hx16⟩ := get_el (xs := v) (i := i) (by omega)
   refine ed (sp v_a (i * 3)) rfl rfl (dv_indexAddr (a := sv v_a v_n v_c) (b := iv ((i : Nat) : Int)) rfl rfl (ix_sls (n := v_n) (i := i) (hv_s.keep hS.keep) hx16 rfl rfl rfl (by omega))) ?_
   refine ed (va x16) rfl rfl (dv_load rfl (ld_slsA (sz := 3) (m := 3) (ys := [fl x16.x, fl x16.y, fl x16.z]) (off := 0) (hv_s.keep hS.keep) hx16 (fun _ => rfl) rfl rfl (Nat.le_of_ble_eq_true rfl) rfl)) ?_
   refine S_box (l := [fl 0, fl 0, fl 0]) hS rfl rfl rfl rfl rfl fun b17 H hS => ?_
   refine ed (iv ((i : Nat) : Int)) rfl rfl (dv_assign rfl) ?_
   refine S_store (i := 8) (yv := va x16) (l' := [fl x16.x, fl x16.y, fl x16.z]) hS rfl rfl rfl rfl rfl rfl rfl rfl rfl rfl rfl rfl fun H hS => ?_
   refine E_nil ?_
   refine th_norm ?_
   have hR := hS.pushes
   have hKb := hS.keep
   have hB := fun Hc (hc : Keep _ Hc) => hR [] Hc (.base hc)
   refine AWp_D0 rfl (by decide +kernel) fun hM => ?_
   refine wd (pt b8 0) rfl rfl (fun _ hc => dv_fieldAddr rfl rfl) ?_
   refine wd (pt b8 0) rfl rfl (fun _ hc => dv_fieldAddr rfl rfl) ?_
   refine wd (sv b3.m.pa b3.m.pn b3.m.pc) rfl rfl (fun _ hc => dv_load rfl (ld_box ((hB _ hc).box 7 rfl) rfl rfl rfl)) ?_
   refine wd (iv ((i : Nat) : Int)) rfl rfl (fun _ hc => dv_move rfl) ?_
   refine wd (pt b8 0) rfl rfl (fun _ hc => dv_fieldAddr rfl rfl) ?_
   refine wd (pt b8 0) rfl rfl (fun _ hc => dv_fieldAddr rfl rfl) ?_
   refine wd (sv b3.m.pa b3.m.pn b3.m.pc) rfl rfl (fun _ hc => dv_load rfl (ld_box ((hB _ hc).box 7 rfl) rfl rfl rfl)) ?_
   refine wd (iv ((i : Nat) : Int)) rfl rfl (fun _ hc => dv_move rfl) ?_
   obtain ⟨x18, hx18⟩ := get_el (xs := o) (i := i) (by omega)
   refine wd (sp b3.m.pa (i * 3)) rfl rfl (fun _ hc => dv_indexAddr (a := sv b3.m.pa b3.m.pn b3.m.pc) (b := iv ((i : Nat) : Int)) rfl rfl (ix_sls (n := b3.m.pn) (i := i) ((hB _ hc).sls 2 rfl) hx18 rfl rfl rfl (by omega))) ?_
   refine wd (va x18) rfl rfl (fun _ hc => dv_load rfl (ld_slsA (sz := 3) (m := 3) (ys := [fl x18.x, fl x18.y, fl x18.z]) (off := 0) ((hB _ hc).sls 2 rfl) hx18 (fun _ => rfl) rfl rfl (Nat.le_of_ble_eq_true rfl) rfl)) ?_
   refine wd (va x16) rfl rfl (fun _ hc => dv_load rfl (ld_boxA (n := 3) ((hB _ hc).box 8 rfl) rfl rfl (Nat.le_of_ble_eq_true rfl) rfl)) ?_
   refine wd (fl k) rfl rfl (fun _ hc => dv_move rfl) ?_
   refine W_call (vs := [va x16, fl k]) rfl rfl rfl rfl rfl rfl rfl (ScaleVector_ok x16 k _) ?_
   rintro _ H ⟨v19, rfl, rfl, hQ⟩
   have hM := hM.up hQ.keep
   refine ⟨hM.keep, ?_⟩
   refine W_call (vs := [va x18, .agg #[fl ((vscale x16 k).x), fl ((vscale x16 k).y), fl ((vscale x16 k).z)]]) rfl rfl rfl rfl rfl rfl rfl (AddVectors_ok x18 (vscale x16 k) _) ?_
   rintro _ H ⟨v20, rfl, rfl, hQ⟩
   have hM := hM.up hQ.keep
   refine ⟨hM.keep, ?_⟩
   refine wd (sp b3.m.pa (i * 3)) rfl rfl (fun _ hc => dv_indexAddr (a := sv b3.m.pa b3.m.pn b3.m.pc) (b := iv ((i : Nat) : Int)) rfl rfl (ix_sls (n := b3.m.pn) (i := i) ((hB _ hc).sls 2 rfl) hx18 rfl rfl rfl (by omega))) ?_
   have hS := hR _ _ hM
   refine D_storeS (k := 2) (i := i) (z' := (vadd x18 (vscale x16 k))) (off := 0) (yv := .agg #[fl ((vadd x18 (vscale x16 k)).x), fl ((vadd x18 (vscale x16 k)).y), fl ((vadd x18 (vscale x16 k)).z)]) hS rfl rfl rfl rfl rfl (fun _ => rfl) rfl rfl rfl hx18 rfl rfl rfl rfl fun H hS => ?_
   have hx21 := set_get (z := (vadd x18 (vscale x16 k))) hx18
   refine bl_norm ?_
   refine th_norm ?_
   refine AWp_E rfl ?_
   refine ed (iv ((i + 1 : Nat) : Int)) rfl rfl (dv_bin rfl rfl (bi_add (by omega))) ?_
   refine ed (iv ((i + 1 : Nat) : Int)) rfl rfl (dv_move rfl) ?_
   refine E_nil ?_
   refine loop_next (I := I9) (v_n - (i + 1)) (by rw [hm12]; omega) ?_
   rw [hI9]
   refine ⟨i + 1, o.set i (vadd x18 (vscale x16 k)), rfl, (all_c rfl (all_c rfl (all_c rfl (all_c rfl (all_c rfl (all_c rfl (all_c rfl (all_c rfl (all_c rfl (all_c rfl (all_c rfl all_n))))))))))), (hS.pick [0, 1, 2, 3, 4, 5, 6, 7] rfl), (by rw [List.length_set]; exact ho_n), ?_, ?_⟩
   · omega
   · exact moveAt_step ho (by rw [← moved_same (v := v) (k := k) b.m.ps (Nat.le_refl i), ← ho]; exact hx18) hx16
  ·
   refine ed no rfl rfl (dv_bin rfl rfl (bi_lss_f hc15)) ?_
   refine E_nil ?_
   refine th_norm ?_
   refine AWp_seq ?_
   refine AWp_cond (t := false) rfl nofun (fun _ => ?_)
   refine AWp_exit (th_exit (th_exit (bl_exit (?_))))
   refine th_norm ?_
   refine AWp_seq ?_
   refine AWp_E rfl ?_
   refine ed (bva b3) rfl rfl (dv_load rfl (ld_boxA (n := 9) (hS.box 7 rfl) rfl rfl (Nat.le_of_ble_eq_true rfl) rfl)) ?_
   refine S_store (i := 1) (yv := bva b3) (l' := [sv b3.m.pa b3.m.pn b3.m.pc, sv b3.m.ta b3.m.tn b3.m.tc, sv b3.sa b3.sn b3.sc, fl b3.film, fl b3.bend, sv b3.wa b3.wn b3.wc, fl b3.fall.x, fl b3.fall.y, fl b3.fall.z]) hS rfl rfl rfl rfl rfl rfl rfl rfl rfl rfl rfl rfl fun H hS => ?_
   refine E_nil ?_
   refine th_norm ?_
   refine AWp_ret (?_)
   refine ret_of ?_
   refine readsRes_of (rs := [.cell 6 43]) (vs := [bva b3]) rfl (re_cons (re_cell (p := pt b2 0) rfl (ld_boxA (n := 9) (hS.box 1 rfl) rfl rfl (Nat.le_of_ble_eq_true rfl) rfl)) (re_nil)) rfl ?_
   refine ⟨⟨⟨b3.m.pa, b3.m.pc, b3.m.pn, o, b3.m.ta, b3.m.tc, b3.m.tn, b3.m.ts⟩, b3.sa, b3.sc, b3.sn, b3.ss, b3.film, b3.bend, b3.wa, b3.wc, b3.wn, b3.ws, b3.fall⟩, ?_, ?_, ?_, ?_, rfl, hS.pick [2, 3, 4, 5, 6] rfl⟩
   · have hii : i = v.length := by omega
     have hdd := h4
     simp only [LB.d, LM.d, Bod.mk.injEq, Msh.mk.injEq] at hdd
     simp only [movedD, LB.d, LM.d, Bod.mk.injEq, Msh.mk.injEq]
     rw [ho, hii]
     simp_all
   · exact ⟨ho_n, h5.2⟩
   · exact h6
   · exact h7
theorem stiffTimes_ok (b : LB) (held_a : Option Addr) (held_n held_c : Nat) (held : List (Int)) (v_a : Option Addr) (v_n v_c : Nat) (v : List (V3)) (step : Nat) (H : AH) (hb : b.ok H) (hheld : VS H encI held_a held_n held) (hv : VS H encV v_a v_n v) (hb0 : Bod.ok b.d) (hv0 : v.length = b.m.ps.length) (hp0 : heldP b.m.ps.length held) : ACalls Tryz.prog 69 [bva b, sv held_a held_n held_c, sv v_a v_n v_c, fl step] H
  (fun r H' => ∃ (x_a : Option Addr), ∃ (x_n : Nat), ∃ (x_c : Nat), ∃ (x_ : List (V3)), x_.length = v.length ∧ x_ = stiffD b.d held v step ∧ x_.length = x_n ∧ r = sv x_a x_n x_c ∧ SepL H [sl encV 41 3 x_a x_c x_] H') := by
 refine ACalls_of Tryz.func69 rfl (Nat.le_of_ble_eq_true rfl) ?_
 obtain ⟨H0, hH0⟩ : ∃ H0, H0 = H := ⟨_, rfl⟩
 have hS : SepL H0 [] H := hH0 ▸ SepL.refl H
 subst hH0
 obtain ⟨⟨hb_1_ps, hb_1_pn, hb_1_pb⟩, hb_1_ts, hb_1_tn, hb_1_tb⟩ := id hb.1
 obtain ⟨⟨hb_ss, hb_sn, hb_sb⟩, hb_ws, hb_wn, hb_wb⟩ := hb.2
 obtain ⟨hheld_s, hheld_n, hheld_b⟩ := id hheld
 obtain ⟨hv_s, hv_n, hv_b⟩ := id hv
 have hbn : b.m.ps.length ≤ 64 := hb0.1.1
 refine AWp_seq ?_
 refine AWp_E rfl ?_
 refine S_box (l := [sv b.m.pa b.m.pn b.m.pc, sv b.m.ta b.m.tn b.m.tc, sv b.sa b.sn b.sc, fl b.film, fl b.bend, sv b.wa b.wn b.wc, fl b.fall.x, fl b.fall.y, fl b.fall.z]) hS rfl rfl rfl rfl rfl fun b1 H hS => ?_
 refine ed (sv none 0 0) rfl rfl (dv_assign rfl) ?_
 refine E_nil ?_
 refine th_norm ?_
 refine AWp_seq ?_
 have hR := hS.pushes
 have hKb := hS.keep
 have hB := fun Hc (hc : Keep _ Hc) => hR [] Hc (.base hc)
 refine AWp_D0 rfl (by decide +kernel) fun hM => ?_
 refine wd (bva b) rfl rfl (fun _ hc => dv_load rfl (ld_boxA (n := 9) ((hB _ hc).box 0 rfl) rfl rfl (Nat.le_of_ble_eq_true rfl) rfl)) ?_
 refine wd (sv v_a v_n v_c) rfl rfl (fun _ hc => dv_move rfl) ?_
 refine wd (fl step) rfl rfl (fun _ hc => dv_move rfl) ?_
 refine wd (fl (fneg .f32 step)) rfl rfl (fun _ hc => dv_un rfl rfl) ?_
 refine W_call (vs := [bva b, sv v_a v_n v_c, fl (fneg .f32 step)]) rfl rfl rfl rfl rfl rfl rfl (moved_ok b v_a v_n v_c v (fneg .f32 step) _ (hb.keep (hKb.trans hM.keep)) (hv.keep (hKb.trans hM.keep)) hv0) ?_
 rintro _ H ⟨b2, h3, h4, h5, h6, rfl, hQ⟩
 have hdlh3 : b2.m.ps.length = (movedD b.d v (fneg .f32 step)).m.ps.length := congrArg (fun d : Bod => d.m.ps.length) h3
 have hdth3 : (rxs b2.m.ts).length = (movedD b.d v (fneg .f32 step)).m.ts.length := congrArg (fun d : Bod => d.m.ts.length) h3
 simp only [rxs, List.length_map] at hdth3
 have hdsh3 : b2.ss.length = (movedD b.d v (fneg .f32 step)).ss.length := congrArg (fun d : Bod => d.ss.length) h3
 have hdwh3 : b2.ws.length = (movedD b.d v (fneg .f32 step)).ws.length := congrArg (fun d : Bod => d.ws.length) h3
 have hM := hM.push hQ
 refine ⟨hM.keep, ?_⟩
 have hokh3 : Bod.ok b2.d := by rw [h3]; exact movedD_ok (by assumption) _ _
 have hmlh3 : b2.m.ps.length = b.m.ps.length := by rw [hdlh3]; exact moved_len _ _ _ _
 have hmsh3 : b2.ss.length = b.ss.length := hdsh3
 have hmwh3 : b2.ws.length = b.ws.length := hdwh3
 have hmth3 : b2.m.ts.length = b.m.ts.length := hdth3.trans (by show (rxs b.m.ts).length = _; rw [rxs, List.length_map])
 refine W_call (vs := [bva b2]) rfl rfl rfl rfl rfl rfl rfl (forcesOf_ok b2 _ ⟨⟨⟨((hR _ _ hM).sls 1 rfl), h4.1, (by first | omega | decide)⟩, ⟨rows_of ((hR _ _ hM).sls 2 rfl) ((hR _ _ hM).at (i := 3) rfl) h5, h4.2, (by omega)⟩⟩, ⟨((hR _ _ hM).sls 4 rfl), h6.1, (by first | omega | decide)⟩, ⟨((hR _ _ hM).sls 5 rfl), h6.2, (by first | omega | decide)⟩⟩ (by first | assumption | omega | (rw [hwl]; rw [show i = b.m.ps.length by omega]; assumption))) ?_
 rintro _ H ⟨x7, x8, x9, x10, h11, h12, rfl, rfl, hQ⟩
 have hlh12 := congrArg List.length h12
 have hM := hM.push hQ
 refine ⟨hM.keep, ?_⟩
 refine wd (bva b) rfl rfl (fun _ hc => dv_load rfl (ld_boxA (n := 9) ((hB _ hc).box 0 rfl) rfl rfl (Nat.le_of_ble_eq_true rfl) rfl)) ?_
 refine wd (sv v_a v_n v_c) rfl rfl (fun _ hc => dv_move rfl) ?_
 refine wd (fl step) rfl rfl (fun _ hc => dv_move rfl) ?_
 refine W_call (vs := [bva b, sv v_a v_n v_c, fl step]) rfl rfl rfl rfl rfl rfl rfl (moved_ok b v_a v_n v_c v step _ (hb.keep (hKb.trans hM.keep)) (hv.keep (hKb.trans hM.keep)) hv0) ?_
 rintro _ H ⟨b13, h14, h15, h16, h17, rfl, hQ⟩
 have hdlh14 : b13.m.ps.length = (movedD b.d v step).m.ps.length := congrArg (fun d : Bod => d.m.ps.length) h14
 have hdth14 : (rxs b13.m.ts).length = (movedD b.d v step).m.ts.length := congrArg (fun d : Bod => d.m.ts.length) h14
 simp only [rxs, List.length_map] at hdth14
 have hdsh14 : b13.ss.length = (movedD b.d v step).ss.length := congrArg (fun d : Bod => d.ss.length) h14
 have hdwh14 : b13.ws.length = (movedD b.d v step).ws.length := congrArg (fun d : Bod => d.ws.length) h14
 have hM := hM.push hQ
 refine ⟨hM.keep, ?_⟩
 have hokh14 : Bod.ok b13.d := by rw [h14]; exact movedD_ok (by assumption) _ _
 have hmlh14 : b13.m.ps.length = b.m.ps.length := by rw [hdlh14]; exact moved_len _ _ _ _
 have hmsh14 : b13.ss.length = b.ss.length := hdsh14
 have hmwh14 : b13.ws.length = b.ws.length := hdwh14
 have hmth14 : b13.m.ts.length = b.m.ts.length := hdth14.trans (by show (rxs b.m.ts).length = _; rw [rxs, List.length_map])
 refine W_call (vs := [bva b13]) rfl rfl rfl rfl rfl rfl rfl (forcesOf_ok b13 _ ⟨⟨⟨((hR _ _ hM).sls 7 rfl), h15.1, (by first | omega | decide)⟩, ⟨rows_of ((hR _ _ hM).sls 8 rfl) ((hR _ _ hM).at (i := 9) rfl) h16, h15.2, (by omega)⟩⟩, ⟨((hR _ _ hM).sls 10 rfl), h17.1, (by first | omega | decide)⟩, ⟨((hR _ _ hM).sls 11 rfl), h17.2, (by first | omega | decide)⟩⟩ (by first | assumption | omega | (rw [hwl]; rw [show i = b.m.ps.length by omega]; assumption))) ?_
 rintro _ H ⟨x18, x19, x20, x21, h22, h23, rfl, rfl, hQ⟩
 have hlh23 := congrArg List.length h23
 have hM := hM.push hQ
 refine ⟨hM.keep, ?_⟩
 refine wd (sv x7 x10.length x9) rfl rfl (fun _ hc => dv_assign rfl) ?_
 refine wd (sv x18 x21.length x20) rfl rfl (fun _ hc => dv_assign rfl) ?_
 have hS := hR _ _ hM
 refine W_nil ?_
 refine th_norm ?_
 refine AWp_seq ?_
 refine AWp_E rfl ?_
 refine ed (fl step) rfl rfl (dv_move rfl) ?_
 refine ed (fl (fop .mul .f32 1073741824 step)) rfl rfl (dv_bin rfl rfl rfl) ?_
 refine ed (fl (fop .div .f32 1065353216 (fop .mul .f32 1073741824 step))) rfl rfl (dv_bin rfl rfl rfl) ?_
 refine ed (fl (fop .div .f32 1065353216 (fop .mul .f32 1073741824 step))) rfl rfl (dv_assign rfl) ?_
 refine E_nil ?_
 refine th_norm ?_
 refine AWp_seq ?_
 refine AWp_E rfl ?_
 refine S_lit (sz := 3) (enc := encV) (xs := ([] : List V3)) (n := 0) hS rfl rfl rfl rfl rfl rfl rfl rfl fun a24 H hS => ?_
 refine ed (sv a24 0 0) rfl rfl (dv_assign rfl) ?_
 refine E_nil ?_
 refine th_norm ?_
 refine AWp_seq ?_
 refine AWp_seq ?_
 refine AWp_E rfl ?_
 refine ed (sv v_a v_n v_c) rfl rfl (dv_move rfl) ?_
 refine ed (iv ((v_n : Nat) : Int)) rfl rfl (dv_len rfl rfl rfl rfl rfl) ?_
 refine ed (iv 0) rfl rfl (dv_move rfl) ?_
 refine E_nil ?_
 refine th_norm ?_
 refine AWp_block ?_
 obtain ⟨I25, hI25⟩ : ∃ I : Nat → Env → AH → Prop, ∀ m_ e_ Hl, I m_ e_ Hl = (∃ (wa : Option Addr) (wc : Nat) (w : List (V3)) (i : Nat), m_ = v_n - i ∧ AllE [(0, bva b), (1, sv held_a held_n held_c), (2, sv v_a v_n v_c), (3, fl step), (4, pt b1 0), (8, sv none 0 0), (9, sv x7 x10.length x9), (10, sv x18 x21.length x20), (11, fl (fop .div .f32 1065353216 (fop .mul .f32 1073741824 step))), (12, sv wa w.length wc), (14, bva b), (15, sv v_a v_n v_c), (16, fl step), (17, fl (fneg .f32 step)), (18, bva b2), (19, sv x7 x10.length x9), (20, bva b), (21, sv v_a v_n v_c), (22, fl step), (23, bva b13), (24, sv x18 x21.length x20), (25, fl step), (26, fl (fop .mul .f32 1073741824 step)), (27, fl (fop .div .f32 1065353216 (fop .mul .f32 1073741824 step))), (28, sv a24 0 0), (29, sv v_a v_n v_c), (30, iv ((v_n : Nat) : Int)), (31, iv ((i : Nat) : Int))] e_ ∧ SepL H0 [box b1 [sv b.m.pa b.m.pn b.m.pc, sv b.m.ta b.m.tn b.m.tc, sv b.sa b.sn b.sc, fl b.film, fl b.bend, sv b.wa b.wn b.wc, fl b.fall.x, fl b.fall.y, fl b.fall.z] 43, sl encV 41 3 b2.m.pa b2.m.pc b2.m.ps, sl encR 53 1 b2.m.ta b2.m.tc b2.m.ts, rowsE 2 b2.m.ts, sl encS 116 4 b2.sa b2.sc b2.ss, sl encF 27 1 b2.wa b2.wc b2.ws, sl encV 41 3 x7 x9 x10, sl encV 41 3 b13.m.pa b13.m.pc b13.m.ps, sl encR 53 1 b13.m.ta b13.m.tc b13.m.ts, rowsE 2 b13.m.ts, sl encS 116 4 b13.sa b13.sc b13.ss, sl encF 27 1 b13.wa b13.wc b13.ws, sl encV 41 3 x18 x20 x21, sl encV 41 3 wa wc w] Hl ∧ (i ≤ v_n) ∧ (w = (List.range i).map fun i => vscale (vsub (x10.getD i v0) (x21.getD i v0)) (fdiv one32 (fmul two32 step))) ∧ (w.length = i)) := ⟨_, fun _ _ _ => rfl⟩
 refine AWp_loop I25 (v_n - (0)) ?_ ?_
 ·
  rw [hI25]
  refine ⟨a24, 0, ([] : List V3), 0, rfl, (all_c rfl (all_c rfl (all_c rfl (all_c rfl (all_c rfl (all_c rfl (all_c rfl (all_c rfl (all_c rfl (all_c rfl (all_c rfl (all_c rfl (all_c rfl (all_c rfl (all_c rfl (all_c rfl (all_c rfl (all_c rfl (all_c rfl (all_c rfl (all_c rfl (all_c rfl (all_c rfl (all_c rfl (all_c rfl (all_c rfl (all_c rfl (all_c rfl all_n)))))))))))))))))))))))))))), hS, ?_, ?_, ?_⟩
  · omega
  · rfl
  · rfl
 ·
  intro m26 _ H hl27
  rw [hI25] at hl27
  obtain ⟨wa, wc, w, i, hm28, he29, hS, hi, hw, hwl⟩ := hl27
  obtain ⟨e30, rfl⟩ := he29.ex
  refine AWp_seq ?_
  refine AWp_E rfl ?_
  rcases Decidable.em (((i : Nat) : Int) < ((v_n : Nat) : Int)) with hc31 | hc31
  ·
   refine ed yes rfl rfl (dv_bin rfl rfl (bi_lss_t hc31)) ?_
   refine E_nil ?_
   refine th_norm ?_
   refine AWp_seq ?_
   refine AWp_cond (t := true) rfl (fun _ => ?_) nofun
   refine AWp_skip ?_
   refine th_norm ?_
   refine AWp_seq ?_
   refine AWp_block ?_
   refine AWp_seq ?_
   refine AWp_E rfl ?_
   refine ed (iv ((i : Nat) : Int)) rfl rfl (dv_move rfl) ?_
   refine ed (iv ((i : Nat) : Int)) rfl rfl (dv_assign rfl) ?_
   refine E_nil ?_
   refine th_norm ?_
   obtain ⟨Hx, hK, hKx, hM, hR⟩ := hS.split [13] rfl
   have hB := fun Hc (hc : Keep Hx Hc) => hR [] Hc (.base hc)
   refine AWp_D hKx rfl (by decide +kernel) ?_
   refine wd (sv wa w.length wc) rfl rfl (fun _ hc => dv_move rfl) ?_
   refine wd (sv x7 x10.length x9) rfl rfl (fun _ hc => dv_move rfl) ?_
   refine wd (iv ((i : Nat) : Int)) rfl rfl (fun _ hc => dv_move rfl) ?_
   obtain ⟨x32, hx32⟩ := get_el (xs := x10) (i := i) (by omega)
   refine wd (sp x7 (i * 3)) rfl rfl (fun _ hc => dv_indexAddr (a := sv x7 x10.length x9) (b := iv ((i : Nat) : Int)) rfl rfl (ix_sls (n := x10.length) (i := i) ((hB _ hc).sls 6 rfl) hx32 rfl rfl rfl (get_lt hx32))) ?_
   refine wd (va x32) rfl rfl (fun _ hc => dv_load rfl (ld_slsA (sz := 3) (m := 3) (ys := [fl x32.x, fl x32.y, fl x32.z]) (off := 0) ((hB _ hc).sls 6 rfl) hx32 (fun _ => rfl) rfl rfl (Nat.le_of_ble_eq_true rfl) rfl)) ?_
   refine wd (sv x18 x21.length x20) rfl rfl (fun _ hc => dv_move rfl) ?_
   refine wd (iv ((i : Nat) : Int)) rfl rfl (fun _ hc => dv_move rfl) ?_
   obtain ⟨x33, hx33⟩ := get_el (xs := x21) (i := i) (by omega)
   refine wd (sp x18 (i * 3)) rfl rfl (fun _ hc => dv_indexAddr (a := sv x18 x21.length x20) (b := iv ((i : Nat) : Int)) rfl rfl (ix_sls (n := x21.length) (i := i) ((hB _ hc).sls 12 rfl) hx33 rfl rfl rfl (get_lt hx33))) ?_
   refine wd (va x33) rfl rfl (fun _ hc => dv_load rfl (ld_slsA (sz := 3) (m := 3) (ys := [fl x33.x, fl x33.y, fl x33.z]) (off := 0) ((hB _ hc).sls 12 rfl) hx33 (fun _ => rfl) rfl rfl (Nat.le_of_ble_eq_true rfl) rfl)) ?_
   refine W_call (vs := [va x32, va x33]) rfl rfl rfl rfl rfl rfl rfl (LessVectors_ok x32 x33 _) ?_
   rintro _ H ⟨v34, rfl, rfl, hQ⟩
   have hM := hM.up hQ.keep
   refine ⟨hM.keep, ?_⟩
   refine wd (fl (fop .div .f32 1065353216 (fop .mul .f32 1073741824 step))) rfl rfl (fun _ hc => dv_move rfl) ?_
   refine W_call (vs := [.agg #[fl ((vsub x32 x33).x), fl ((vsub x32 x33).y), fl ((vsub x32 x33).z)], fl (fop .div .f32 1065353216 (fop .mul .f32 1073741824 step))]) rfl rfl rfl rfl rfl rfl rfl (ScaleVector_ok (vsub x32 x33) (fop .div .f32 1065353216 (fop .mul .f32 1073741824 step)) _) ?_
   rintro _ H ⟨v35, h36, rfl, hQ⟩
   have hM := hM.up hQ.keep
   refine ⟨hM.keep, ?_⟩
   refine D_lit (sz := 3) (enc := encV) (xs := ([v35] : List (V3))) (n := 1) hM rfl rfl rfl rfl rfl rfl rfl rfl fun a37 H hM => ?_
   refine D_append (k := 0) (bytes := 12) (enc := encV) (xs := w) (ys := ([v35] : List (V3))) hM rfl rfl rfl rfl rfl rfl rfl rfl rfl rfl (fun _ => rfl) (fun _ => rfl) rfl rfl rfl rfl ((hR _ _ hM).sls 14 rfl) (by omega) (by omega) fun a38 c39 x40 H hx41 hn42 hM => ?_
   refine wd (sv a38 x40.length c39) rfl rfl (fun _ hc => dv_assign rfl) ?_
   have hS := hR _ _ hM
   refine W_nil ?_
   refine bl_norm ?_
   refine th_norm ?_
   refine AWp_E rfl ?_
   refine ed (iv ((i + 1 : Nat) : Int)) rfl rfl (dv_bin rfl rfl (bi_add (by omega))) ?_
   refine ed (iv ((i + 1 : Nat) : Int)) rfl rfl (dv_move rfl) ?_
   refine E_nil ?_
   refine loop_next (I := I25) (v_n - (i + 1)) (by rw [hm28]; omega) ?_
   rw [hI25]
   refine ⟨a38, c39, x40, i + 1, rfl, (all_c rfl (all_c rfl (all_c rfl (all_c rfl (all_c rfl (all_c rfl (all_c rfl (all_c rfl (all_c rfl (all_c rfl (all_c rfl (all_c rfl (all_c rfl (all_c rfl (all_c rfl (all_c rfl (all_c rfl (all_c rfl (all_c rfl (all_c rfl (all_c rfl (all_c rfl (all_c rfl (all_c rfl (all_c rfl (all_c rfl (all_c rfl (all_c rfl all_n)))))))))))))))))))))))))))), (hS.pick [0, 1, 2, 3, 4, 5, 6, 7, 8, 9, 10, 11, 12, 13] rfl), ?_, ?_, ?_⟩
   · omega
   · rw [hx41, hw, range_step, gD v0 hx32, gD v0 hx33]
     simp only [h36]
   · omega
  ·
   refine ed no rfl rfl (dv_bin rfl rfl (bi_lss_f hc31)) ?_
   refine E_nil ?_
   refine th_norm ?_
   refine AWp_seq ?_
   refine AWp_cond (t := false) rfl nofun (fun _ => ?_)
   refine AWp_exit (th_exit (th_exit (bl_exit (?_))))
   refine th_norm ?_
   refine AWp_seq ?_
   refine AWp_E rfl ?_
   refine ed (sv wa w.length wc) rfl rfl (dv_move rfl) ?_
   refine ed (sv held_a held_n held_c) rfl rfl (dv_move rfl) ?_
   refine E_call (vs := [sv wa w.length wc, sv held_a held_n held_c]) rfl rfl rfl rfl rfl rfl rfl (freed_ok wa w.length wc w held_a held_n held_c held _ ⟨(hS.sls 13 rfl), rfl, (by first | omega | decide)⟩ (hheld.keep hS.keep) (by first | assumption | omega | (rw [hwl]; rw [show i = b.m.ps.length by omega]; assumption))) ?_
   rintro _ H ⟨x43, x44, x45, x46, h47, h48, rfl, rfl, hQ⟩
   have hlh48 := congrArg List.length h48
   have hS := hS.push hQ
   refine ed (sv x43 x46.length x45) rfl rfl (dv_assign rfl) ?_
   refine E_nil ?_
   refine th_norm ?_
   refine AWp_ret (?_)
   refine ret_of ?_
   refine readsRes_of (rs := [.tmp 8]) (vs := [sv x43 x46.length x45]) rfl (re_cons (re_tmp rfl) (re_nil)) rfl ?_
   refine ⟨x43, x46.length, x45, x46, ?_, ?_, rfl, rfl, hS.pick [14] rfl⟩
   · omega
   · have hii : i = v.length := by omega
     rw [h48, hw, hii, h12, h23, h3, h14]; rfl
theorem rayleigh_ok (b : LB) (held_a : Option Addr) (held_n held_c : Nat) (held : List (Int)) (v_a : Option Addr) (v_n v_c : Nat) (v : List (V3)) (step : Nat) (H : AH) (hb : b.ok H) (hheld : VS H encI held_a held_n held) (hv : VS H encV v_a v_n v) (hb0 : Bod.ok b.d) (hv0 : v.length = b.m.ps.length) (hp0 : heldP b.m.ps.length held) : ACalls Tryz.prog 66 [bva b, sv held_a held_n held_c, sv v_a v_n v_c, fl step] H
  (fun r H' => (∃ (v0_ : Nat), rayP v ∧ rayD b.d held v step = v0_ ∧ r = .tuple #[fl v0_, yes] ∧ SepL H [] H') ∨ (∃ (v0_ : Nat), ¬(rayP v) ∧ 0 = v0_ ∧ r = .tuple #[fl v0_, no] ∧ SepL H [] H')) := by
 refine ACalls_of Tryz.func66 rfl (Nat.le_of_ble_eq_true rfl) ?_
 obtain ⟨H0, hH0⟩ : ∃ H0, H0 = H := ⟨_, rfl⟩
 have hS : SepL H0 [] H := hH0 ▸ SepL.refl H
 subst hH0
 obtain ⟨⟨hb_1_ps, hb_1_pn, hb_1_pb⟩, hb_1_ts, hb_1_tn, hb_1_tb⟩ := id hb.1
 obtain ⟨⟨hb_ss, hb_sn, hb_sb⟩, hb_ws, hb_wn, hb_wb⟩ := hb.2
 obtain ⟨hheld_s, hheld_n, hheld_b⟩ := id hheld
 obtain ⟨hv_s, hv_n, hv_b⟩ := id hv
 have hbn : b.m.ps.length ≤ 64 := hb0.1.1
 refine AWp_seq ?_
 refine AWp_E rfl ?_
 refine S_box (l := [sv b.m.pa b.m.pn b.m.pc, sv b.m.ta b.m.tn b.m.tc, sv b.sa b.sn b.sc, fl b.film, fl b.bend, sv b.wa b.wn b.wc, fl b.fall.x, fl b.fall.y, fl b.fall.z]) hS rfl rfl rfl rfl rfl fun b1 H hS => ?_
 refine ed (fl 0) rfl rfl (dv_assign rfl) ?_
 refine ed no rfl rfl (dv_assign rfl) ?_
 refine E_nil ?_
 refine th_norm ?_
 refine AWp_seq ?_
 refine AWp_E rfl ?_
 refine ed (sv v_a v_n v_c) rfl rfl (dv_move rfl) ?_
 refine ed (sv v_a v_n v_c) rfl rfl (dv_move rfl) ?_
 refine E_call (vs := [sv v_a v_n v_c, sv v_a v_n v_c]) rfl rfl rfl rfl rfl rfl rfl (innerAll_ok v_a v_n v_c v v_a v_n v_c v _ (hv.keep hS.keep) (hv.keep hS.keep) (by first | assumption | omega | (simp only [*]; assumption) | (simp_all; done))) ?_
 rintro _ H ⟨v2, rfl, rfl, hQ⟩
 have hS := hS.up hQ.keep
 refine ed (fl (innerD v v)) rfl rfl (dv_assign rfl) ?_
 refine E_nil ?_
 refine th_norm ?_
 refine AWp_seq ?_
 refine AWp_seq ?_
 refine AWp_E rfl ?_
 refine ed (fl (innerD v v)) rfl rfl (dv_move rfl) ?_
 rcases Bool.eq_false_or_eq_true (fgt .f32 (innerD v v) 0) with hc3 | hc3
 ·
  refine ed yes rfl rfl (dv_bin rfl rfl (isB bf_gtr hc3)) ?_
  refine ed no rfl rfl (dv_un rfl rfl) ?_
  refine E_nil ?_
  refine th_norm ?_
  refine AWp_cond (t := false) rfl nofun (fun _ => ?_)
  refine AWp_skip ?_
  refine th_norm ?_
  refine AWp_seq ?_
  refine AWp_E rfl ?_
  refine ed (sv v_a v_n v_c) rfl rfl (dv_move rfl) ?_
  refine ed (bva b) rfl rfl (dv_load rfl (ld_boxA (n := 9) (hS.box 0 rfl) rfl rfl (Nat.le_of_ble_eq_true rfl) rfl)) ?_
  refine ed (sv held_a held_n held_c) rfl rfl (dv_move rfl) ?_
  refine ed (sv v_a v_n v_c) rfl rfl (dv_move rfl) ?_
  refine ed (fl step) rfl rfl (dv_move rfl) ?_
  refine E_call (vs := [bva b, sv held_a held_n held_c, sv v_a v_n v_c, fl step]) rfl rfl rfl rfl rfl rfl rfl (stiffTimes_ok b held_a held_n held_c held v_a v_n v_c v step _ (hb.keep hS.keep) (hheld.keep hS.keep) (hv.keep hS.keep) hb0 hv0 hp0) ?_
  rintro _ H ⟨x4, x5, x6, x7, h8, h9, rfl, rfl, hQ⟩
  have hlh9 := congrArg List.length h9
  have hS := hS.push hQ
  refine E_call (vs := [sv v_a v_n v_c, sv x4 x7.length x6]) rfl rfl rfl rfl rfl rfl rfl (innerAll_ok v_a v_n v_c v x4 x7.length x6 x7 _ (hv.keep hS.keep) ⟨(hS.sls 1 rfl), rfl, (by first | omega | decide)⟩ (by first | assumption | omega | (simp only [*]; assumption) | (simp_all; done))) ?_
  rintro _ H ⟨v10, rfl, rfl, hQ⟩
  have hS := hS.up hQ.keep
  refine ed (fl (innerD v v)) rfl rfl (dv_move rfl) ?_
  refine ed (fl (fop .div .f32 (innerD v x7) (innerD v v))) rfl rfl (dv_bin rfl rfl rfl) ?_
  refine ed (fl (fop .div .f32 (innerD v x7) (innerD v v))) rfl rfl (dv_assign rfl) ?_
  refine ed yes rfl rfl (dv_assign rfl) ?_
  refine E_nil ?_
  refine th_norm ?_
  refine AWp_ret (?_)
  refine ret_of ?_
  refine readsRes_of (rs := [.tmp 8, .tmp 9]) (vs := [fl (fop .div .f32 (innerD v x7) (innerD v v)), yes]) rfl (re_cons (re_tmp rfl) (re_cons (re_tmp rfl) (re_nil))) rfl ?_
  refine .inl ?_
  refine ⟨(fop .div .f32 (innerD v x7) (innerD v v)), ?_, ?_, rfl, .base hS.keep⟩
  · exact hc3
  · rw [h9]; rfl
 ·
  refine ed no rfl rfl (dv_bin rfl rfl (isB bf_gtr hc3)) ?_
  refine ed yes rfl rfl (dv_un rfl rfl) ?_
  refine E_nil ?_
  refine th_norm ?_
  refine AWp_cond (t := true) rfl (fun _ => ?_) nofun
  refine AWp_seq ?_
  refine AWp_E rfl ?_
  refine ed (fl 0) rfl rfl (dv_assign rfl) ?_
  refine ed no rfl rfl (dv_assign rfl) ?_
  refine E_nil ?_
  refine th_norm ?_
  refine AWp_ret (th_ret (?_))
  refine ret_of ?_
  refine readsRes_of (rs := [.tmp 8, .tmp 9]) (vs := [fl 0, no]) rfl (re_cons (re_tmp rfl) (re_cons (re_tmp rfl) (re_nil))) rfl ?_
  refine .inr (?_)
  refine ⟨0, ?_, ?_, rfl, .base hS.keep⟩
  · unfold rayP; rw [hc3]; decide
  · rfl
end Go.Ab

set_option maxRecDepth 100000
set_option maxHeartbeats 4000000
namespace Go.Ab
open Go.Proofs
theorem spec_RayleighOf_ok (b : LB) (held_a : Option Addr) (held_n held_c : Nat) (held : List (Int)) (v_a : Option Addr) (v_n v_c : Nat) (v : List (V3)) (step : Nat) (H : AH) (hb : b.ok H) (hheld : VS H encI held_a held_n held) (hv : VS H encV v_a v_n v) : ACalls Tryz.prog 24 [bva b, sv held_a held_n held_c, sv v_a v_n v_c, fl step] H
  (fun r H' => (∃ (v0_ : Nat), (canP b.d held v.length step ∧ rayP (freedD v held)) ∧ rayD b.d held (freedD v held) step = v0_ ∧ r = .tuple #[fl v0_, yes] ∧ SepL H [] H') ∨ (∃ (v0_ : Nat), (¬(canP b.d held v.length step ∧ rayP (freedD v held))) ∧ 0 = v0_ ∧ r = .tuple #[fl v0_, no] ∧ SepL H [] H')) := by
 refine ACalls_of Tryz.func24 rfl (Nat.le_of_ble_eq_true rfl) ?_
 obtain ⟨H0, hH0⟩ : ∃ H0, H0 = H := ⟨_, rfl⟩
 have hS : SepL H0 [] H := hH0 ▸ SepL.refl H
 subst hH0
 obtain ⟨⟨hb_1_ps, hb_1_pn, hb_1_pb⟩, hb_1_ts, hb_1_tn, hb_1_tb⟩ := id hb.1
 obtain ⟨⟨hb_ss, hb_sn, hb_sb⟩, hb_ws, hb_wn, hb_wb⟩ := hb.2
 obtain ⟨hheld_s, hheld_n, hheld_b⟩ := id hheld
 obtain ⟨hv_s, hv_n, hv_b⟩ := id hv
 refine AWp_seq ?_
 refine AWp_E rfl ?_
 refine S_box (l := [sv b.m.pa b.m.pn b.m.pc, sv b.m.ta b.m.tn b.m.tc, sv b.sa b.sn b.sc, fl b.film, fl b.bend, sv b.wa b.wn b.wc, fl b.fall.x, fl b.fall.y, fl b.fall.z]) hS rfl rfl rfl rfl rfl fun b1 H hS => ?_
 refine ed (fl 0) rfl rfl (dv_assign rfl) ?_
 refine ed no rfl rfl (dv_assign rfl) ?_
 refine E_nil ?_
 refine th_norm ?_
 refine AWp_seq ?_
 refine AWp_seq ?_
 refine AWp_E rfl ?_
 refine ed (sv held_a held_n held_c) rfl rfl (dv_move rfl) ?_
 refine ed (sv v_a v_n v_c) rfl rfl (dv_move rfl) ?_
 refine ed (fl step) rfl rfl (dv_move rfl) ?_
 refine E_call (vs := [pt b1 0, sv held_a held_n held_c, sv v_a v_n v_c, fl step]) rfl rfl rfl rfl rfl rfl rfl (l09Can_ok b1 0 b held_a held_n held_c held v_a v_n v_c v step _ (PV.of (n := 9) (hS.box 0 rfl) rfl rfl) (hb.keep hS.keep) (hheld.keep hS.keep) (hv.keep hS.keep)) ?_
 rintro _ H (⟨h2, rfl, hQ⟩ | ⟨h3, rfl, hQ⟩)
 ·
  have hS := hS.up hQ.keep
  have hcb : Bod.ok b.d := h2.1
  have hch : heldP b.m.ps.length held := h2.2.1
  have hcv : v.length = b.m.ps.length := h2.2.2.1
  have hco := h2.2.2.2
  have hbn : b.m.ps.length ≤ 64 := hcb.1.1
  refine ed no rfl rfl (dv_un rfl rfl) ?_
  refine E_nil ?_
  refine th_norm ?_
  refine AWp_cond (t := false) rfl nofun (fun _ => ?_)
  refine AWp_skip ?_
  refine th_norm ?_
  refine AWp_seq ?_
  refine AWp_E rfl ?_
  refine ed (sv held_a held_n held_c) rfl rfl (dv_move rfl) ?_
  refine ed (sv v_a v_n v_c) rfl rfl (dv_move rfl) ?_
  refine ed (sv held_a held_n held_c) rfl rfl (dv_move rfl) ?_
  refine E_call (vs := [sv v_a v_n v_c, sv held_a held_n held_c]) rfl rfl rfl rfl rfl rfl rfl (l09Freed_ok v_a v_n v_c v held_a held_n held_c held _ (hv.keep hS.keep) (hheld.keep hS.keep) (by first | assumption | omega | (rw [hcv]; assumption) | (rw [hcv]; omega))) ?_
  rintro _ H ⟨x4, x5, x6, x7, h8, h9, rfl, rfl, hQ⟩
  have hlh9 := congrArg List.length h9
  have hS := hS.push hQ
  refine ed (fl step) rfl rfl (dv_move rfl) ?_
  refine E_call (vs := [pt b1 0, sv held_a held_n held_c, sv x4 x7.length x6, fl step]) rfl rfl rfl rfl rfl rfl rfl (l09Rayleigh_ok b1 0 b held_a held_n held_c held x4 x7.length x6 x7 step _ (PV.of (n := 9) (hS.box 0 rfl) rfl rfl) (hb.keep hS.keep) (hheld.keep hS.keep) ⟨(hS.sls 1 rfl), rfl, (by first | omega | decide)⟩ (by first | assumption | omega | (rw [hcv]; assumption) | (rw [hcv]; omega)) (by first | assumption | omega | (rw [hcv]; assumption) | (rw [hcv]; omega)) (by first | assumption | omega | (rw [hcv]; assumption) | (rw [hcv]; omega))) ?_
  rintro _ H (⟨v10, h11, rfl, rfl, hQ⟩ | ⟨v12, h13, rfl, rfl, hQ⟩)
  ·
   have hS := hS.up hQ.keep
   refine ed (fl (rayD b.d held x7 step)) rfl rfl (dv_extract rfl rfl) ?_
   refine ed yes rfl rfl (dv_extract rfl rfl) ?_
   refine ed (fl (rayD b.d held x7 step)) rfl rfl (dv_assign rfl) ?_
   refine ed yes rfl rfl (dv_assign rfl) ?_
   refine E_nil ?_
   refine th_norm ?_
   refine AWp_ret (?_)
   refine ret_of ?_
   refine readsRes_of (rs := [.tmp 8, .tmp 9]) (vs := [fl (rayD b.d held x7 step), yes]) rfl (re_cons (re_tmp rfl) (re_cons (re_tmp rfl) (re_nil))) rfl ?_
   refine .inl ?_
   refine ⟨(rayD b.d held x7 step), ?_, ?_, rfl, .base hS.keep⟩
   · exact ⟨by assumption, by rw [← h9]; assumption⟩
   · first | rfl | (simp only [*]; done) | (simp_all; done)
  ·
   have hS := hS.up hQ.keep
   refine ed (fl 0) rfl rfl (dv_extract rfl rfl) ?_
   refine ed no rfl rfl (dv_extract rfl rfl) ?_
   refine ed (fl 0) rfl rfl (dv_assign rfl) ?_
   refine ed no rfl rfl (dv_assign rfl) ?_
   refine E_nil ?_
   refine th_norm ?_
   refine AWp_ret (?_)
   refine ret_of ?_
   refine readsRes_of (rs := [.tmp 8, .tmp 9]) (vs := [fl 0, no]) rfl (re_cons (re_tmp rfl) (re_cons (re_tmp rfl) (re_nil))) rfl ?_
   refine .inr (?_)
   refine ⟨0, ?_, ?_, rfl, .base hS.keep⟩
   · intro hh
     have h2 := hh.2
     rw [← h9] at h2
     contradiction
   · first | rfl | (simp only [*]; done) | (simp_all; done)
 ·
  have hS := hS.up hQ.keep
  refine ed yes rfl rfl (dv_un rfl rfl) ?_
  refine E_nil ?_
  refine th_norm ?_
  refine AWp_cond (t := true) rfl (fun _ => ?_) nofun
  refine AWp_seq ?_
  refine AWp_E rfl ?_
  refine ed (fl 0) rfl rfl (dv_assign rfl) ?_
  refine ed no rfl rfl (dv_assign rfl) ?_
  refine E_nil ?_
  refine th_norm ?_
  refine AWp_ret (th_ret (?_))
  refine ret_of ?_
  refine readsRes_of (rs := [.tmp 8, .tmp 9]) (vs := [fl 0, no]) rfl (re_cons (re_tmp rfl) (re_cons (re_tmp rfl) (re_nil))) rfl ?_
  refine .inr (?_)
  refine ⟨0, ?_, ?_, rfl, .base hS.keep⟩
  · intro hh
    exact absurd hh.1 (by assumption)
  · first | rfl | (simp only [*]; done) | (simp_all; done)
end Go.Ab

set_option maxRecDepth 100000
set_option maxHeartbeats 4000000
namespace Go.Ab
open Go.Proofs
theorem impl_RayleighOf_ok (b : LB) (held_a : Option Addr) (held_n held_c : Nat) (held : List (Int)) (v_a : Option Addr) (v_n v_c : Nat) (v : List (V3)) (step : Nat) (H : AH) (hb : b.ok H) (hheld : VS H encI held_a held_n held) (hv : VS H encV v_a v_n v) : ACalls Tryz.prog 26 [bva b, sv held_a held_n held_c, sv v_a v_n v_c, fl step] H
  (fun r H' => (∃ (v0_ : Nat), (canP b.d held v.length step ∧ rayP (freedD v held)) ∧ rayD b.d held (freedD v held) step = v0_ ∧ r = .tuple #[fl v0_, yes] ∧ SepL H [] H') ∨ (∃ (v0_ : Nat), (¬(canP b.d held v.length step ∧ rayP (freedD v held))) ∧ 0 = v0_ ∧ r = .tuple #[fl v0_, no] ∧ SepL H [] H')) := by
 refine ACalls_of Tryz.func26 rfl (Nat.le_of_ble_eq_true rfl) ?_
 obtain ⟨H0, hH0⟩ : ∃ H0, H0 = H := ⟨_, rfl⟩
 have hS : SepL H0 [] H := hH0 ▸ SepL.refl H
 subst hH0
 obtain ⟨⟨hb_1_ps, hb_1_pn, hb_1_pb⟩, hb_1_ts, hb_1_tn, hb_1_tb⟩ := id hb.1
 obtain ⟨⟨hb_ss, hb_sn, hb_sb⟩, hb_ws, hb_wn, hb_wb⟩ := hb.2
 obtain ⟨hheld_s, hheld_n, hheld_b⟩ := id hheld
 obtain ⟨hv_s, hv_n, hv_b⟩ := id hv
 refine AWp_seq ?_
 refine AWp_E rfl ?_
 refine S_box (l := [sv b.m.pa b.m.pn b.m.pc, sv b.m.ta b.m.tn b.m.tc, sv b.sa b.sn b.sc, fl b.film, fl b.bend, sv b.wa b.wn b.wc, fl b.fall.x, fl b.fall.y, fl b.fall.z]) hS rfl rfl rfl rfl rfl fun b1 H hS => ?_
 refine ed (fl 0) rfl rfl (dv_assign rfl) ?_
 refine ed no rfl rfl (dv_assign rfl) ?_
 refine E_nil ?_
 refine th_norm ?_
 refine AWp_seq ?_
 refine AWp_seq ?_
 refine AWp_E rfl ?_
 refine ed (bva b) rfl rfl (dv_load rfl (ld_boxA (n := 9) (hS.box 0 rfl) rfl rfl (Nat.le_of_ble_eq_true rfl) rfl)) ?_
 refine ed (sv held_a held_n held_c) rfl rfl (dv_move rfl) ?_
 refine ed (sv v_a v_n v_c) rfl rfl (dv_move rfl) ?_
 refine ed (fl step) rfl rfl (dv_move rfl) ?_
 refine E_call (vs := [bva b, sv held_a held_n held_c, sv v_a v_n v_c, fl step]) rfl rfl rfl rfl rfl rfl rfl (areFor_ok b held_a held_n held_c held v_a v_n v_c v step _ (hb.keep hS.keep) (hheld.keep hS.keep) (hv.keep hS.keep)) ?_
 rintro _ H (⟨h2, rfl, hQ⟩ | ⟨h3, rfl, hQ⟩)
 ·
  have hS := hS.up hQ.keep
  have hcb : Bod.ok b.d := h2.1
  have hch : heldP b.m.ps.length held := h2.2.1
  have hcv : v.length = b.m.ps.length := h2.2.2.1
  have hco := h2.2.2.2
  have hbn : b.m.ps.length ≤ 64 := hcb.1.1
  refine ed no rfl rfl (dv_un rfl rfl) ?_
  refine E_nil ?_
  refine th_norm ?_
  refine AWp_cond (t := false) rfl nofun (fun _ => ?_)
  refine AWp_skip ?_
  refine th_norm ?_
  refine AWp_seq ?_
  have hR := hS.pushes
  have hKb := hS.keep
  have hB := fun Hc (hc : Keep _ Hc) => hR [] Hc (.base hc)
  refine AWp_D0 rfl (by decide +kernel) fun hM => ?_
  refine wd (bva b) rfl rfl (fun _ hc => dv_load rfl (ld_boxA (n := 9) ((hB _ hc).box 0 rfl) rfl rfl (Nat.le_of_ble_eq_true rfl) rfl)) ?_
  refine wd (sv held_a held_n held_c) rfl rfl (fun _ hc => dv_move rfl) ?_
  refine wd (sv v_a v_n v_c) rfl rfl (fun _ hc => dv_move rfl) ?_
  refine wd (sv held_a held_n held_c) rfl rfl (fun _ hc => dv_move rfl) ?_
  refine W_call (vs := [sv v_a v_n v_c, sv held_a held_n held_c]) rfl rfl rfl rfl rfl rfl rfl (freed_ok v_a v_n v_c v held_a held_n held_c held _ (hv.keep (hKb.trans hM.keep)) (hheld.keep (hKb.trans hM.keep)) (by first | assumption | omega | (rw [hcv]; assumption) | (rw [hcv]; omega))) ?_
  rintro _ H ⟨x4, x5, x6, x7, h8, h9, rfl, rfl, hQ⟩
  have hlh9 := congrArg List.length h9
  have hM := hM.push hQ
  refine ⟨hM.keep, ?_⟩
  refine wd (fl step) rfl rfl (fun _ hc => dv_move rfl) ?_
  refine W_call (vs := [bva b, sv held_a held_n held_c, sv x4 x7.length x6, fl step]) rfl rfl rfl rfl rfl rfl rfl (rayleigh_ok b held_a held_n held_c held x4 x7.length x6 x7 step _ (hb.keep (hKb.trans hM.keep)) (hheld.keep (hKb.trans hM.keep)) ⟨((hR _ _ hM).sls 1 rfl), rfl, (by first | omega | decide)⟩ (by first | assumption | omega | (rw [hcv]; assumption) | (rw [hcv]; omega)) (by first | assumption | omega | (rw [hcv]; assumption) | (rw [hcv]; omega)) (by first | assumption | omega | (rw [hcv]; assumption) | (rw [hcv]; omega))) ?_
  rintro _ H (⟨v10, h11, rfl, rfl, hQ⟩ | ⟨v12, h13, rfl, rfl, hQ⟩)
  ·
   have hM := hM.up hQ.keep
   refine ⟨hM.keep, ?_⟩
   refine wd (fl (rayD b.d held x7 step)) rfl rfl (fun _ hc => dv_extract rfl rfl) ?_
   refine wd yes rfl rfl (fun _ hc => dv_extract rfl rfl) ?_
   refine wd (fl (rayD b.d held x7 step)) rfl rfl (fun _ hc => dv_assign rfl) ?_
   refine wd yes rfl rfl (fun _ hc => dv_assign rfl) ?_
   have hS := hR _ _ hM
   refine W_nil ?_
   refine th_norm ?_
   refine AWp_ret (?_)
   refine ret_of ?_
   refine readsRes_of (rs := [.tmp 8, .tmp 9]) (vs := [fl (rayD b.d held x7 step), yes]) rfl (re_cons (re_tmp rfl) (re_cons (re_tmp rfl) (re_nil))) rfl ?_
   refine .inl ?_
   refine ⟨(rayD b.d held x7 step), ?_, ?_, rfl, .base hS.keep⟩
   · exact ⟨by assumption, by rw [← h9]; assumption⟩
   · first | rfl | (simp only [*]; done) | (simp_all; done)
  ·
   have hM := hM.up hQ.keep
   refine ⟨hM.keep, ?_⟩
   refine wd (fl 0) rfl rfl (fun _ hc => dv_extract rfl rfl) ?_
   refine wd no rfl rfl (fun _ hc => dv_extract rfl rfl) ?_
   refine wd (fl 0) rfl rfl (fun _ hc => dv_assign rfl) ?_
   refine wd no rfl rfl (fun _ hc => dv_assign rfl) ?_
   have hS := hR _ _ hM
   refine W_nil ?_
   refine th_norm ?_
   refine AWp_ret (?_)
   refine ret_of ?_
   refine readsRes_of (rs := [.tmp 8, .tmp 9]) (vs := [fl 0, no]) rfl (re_cons (re_tmp rfl) (re_cons (re_tmp rfl) (re_nil))) rfl ?_
   refine .inr (?_)
   refine ⟨0, ?_, ?_, rfl, .base hS.keep⟩
   · intro hh
     have h2 := hh.2
     rw [← h9] at h2
     contradiction
   · first | rfl | (simp only [*]; done) | (simp_all; done)
 ·
  have hS := hS.up hQ.keep
  refine ed yes rfl rfl (dv_un rfl rfl) ?_
  refine E_nil ?_
  refine th_norm ?_
  refine AWp_cond (t := true) rfl (fun _ => ?_) nofun
  refine AWp_seq ?_
  refine AWp_E rfl ?_
  refine ed (fl 0) rfl rfl (dv_assign rfl) ?_
  refine ed no rfl rfl (dv_assign rfl) ?_
  refine E_nil ?_
  refine th_norm ?_
  refine AWp_ret (th_ret (?_))
  refine ret_of ?_
  refine readsRes_of (rs := [.tmp 8, .tmp 9]) (vs := [fl 0, no]) rfl (re_cons (re_tmp rfl) (re_cons (re_tmp rfl) (re_nil))) rfl ?_
  refine .inr (?_)
  refine ⟨0, ?_, ?_, rfl, .base hS.keep⟩
  · intro hh
    exact absurd hh.1 (by assumption)
  · first | rfl | (simp only [*]; done) | (simp_all; done)
end Go.Ab

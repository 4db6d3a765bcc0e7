/- Walks through functions of the program: what each computes, told over that view of memory; each with the conditions that it tells. -/
import Derived.Test.YtpiidmgenkjiiaaGreatProg
import Derived.Test.YtpiidmgenkjiiaaGreatWf
import Derived.Test.YtpiidmgenkjiiaaGreatWa
set_option maxRecDepth 100000
set_option maxHeartbeats 4000000
namespace Go.Ab
open Go.Proofs
theorem FnExactRayleighOf_ok (aB : LB) (aHeld_a : Option Addr) (aHeld_n aHeld_c : Nat) (aHeld : List (Int)) (aV_a : Option Addr) (aV_n aV_c : Nat) (aV : List (V3)) (aStep : Nat) (H : AH) (haB : aB.ok H) (haHeld : VS H encI aHeld_a aHeld_n aHeld) (haV : VS H encV aV_a aV_n aV) : ACalls Tryz.prog 4 [bva aB, sv aHeld_a aHeld_n aHeld_c, sv aV_a aV_n aV_c, fl aStep] H
  (fun r H' => r = yes ∧ SepL H [] H') := by
 refine ACalls_of Tryz.func4 rfl (Nat.le_of_ble_eq_true rfl) ?_
 obtain ⟨H0, hH0⟩ : ∃ H0, H0 = H := ⟨_, rfl⟩
 have hS : SepL H0 [] H := hH0 ▸ SepL.refl H
 subst hH0
 obtain ⟨⟨haB_1_ps, haB_1_pn, haB_1_pb⟩, haB_1_ts, haB_1_tn, haB_1_tb⟩ := id haB.1
 obtain ⟨⟨haB_ss, haB_sn, haB_sb⟩, haB_ws, haB_wn, haB_wb⟩ := haB.2
 obtain ⟨haHeld_s, haHeld_n, haHeld_b⟩ := id haHeld
 obtain ⟨haV_s, haV_n, haV_b⟩ := id haV
 refine AWp_seq ?_
 refine AWp_E rfl ?_
 refine S_box (l := [sv aB.m.pa aB.m.pn aB.m.pc, sv aB.m.ta aB.m.tn aB.m.tc, sv aB.sa aB.sn aB.sc, fl aB.film, fl aB.bend, sv aB.wa aB.wn aB.wc, fl aB.fall.x, fl aB.fall.y, fl aB.fall.z]) hS rfl rfl rfl rfl rfl fun b1 H hS => ?_
 refine ed no rfl rfl (dv_assign rfl) ?_
 refine E_nil ?_
 refine th_norm ?_
 refine AWp_seq ?_
 refine AWp_seq ?_
 refine AWp_E rfl ?_
 refine ed (sv aHeld_a aHeld_n aHeld_c) rfl rfl (dv_move rfl) ?_
 refine ed (iv ((aHeld_n : Nat) : Int)) rfl rfl (dv_len rfl rfl rfl rfl rfl) ?_
 rcases Decidable.em ((1048576 : Int) < ((aHeld_n : Nat) : Int)) with hc2 | hc2
 ·
  refine ed yes rfl rfl (dv_bin rfl rfl (bi_gtr_t hc2)) ?_
  refine E_nil ?_
  refine th_norm ?_
  refine AWp_cond (t := true) rfl (fun _ => ?_) nofun
  refine AWp_seq ?_
  refine AWp_E rfl ?_
  refine ed yes rfl rfl (dv_assign rfl) ?_
  refine E_nil ?_
  refine th_norm ?_
  refine AWp_ret (th_ret (?_))
  refine ret_of ?_
  refine readsRes_of (rs := [.tmp 8]) (vs := [yes]) rfl (re_cons (re_tmp rfl) (re_nil)) rfl ?_
  refine ⟨rfl, .base hS.keep⟩
 ·
  refine ed no rfl rfl (dv_bin rfl rfl (bi_gtr_f hc2)) ?_
  refine E_nil ?_
  refine th_norm ?_
  refine AWp_cond (t := false) rfl nofun (fun _ => ?_)
  refine AWp_skip ?_
  refine th_norm ?_
  refine AWp_seq ?_
  refine AWp_E rfl ?_
  refine ed (iv 1048576) rfl rfl (dv_assign rfl) ?_
  refine E_nil ?_
  refine th_norm ?_
  refine AWp_seq ?_
  refine AWp_E rfl ?_
  refine ed (bva aB) rfl rfl (dv_load rfl (ld_boxA (n := 9) (hS.box 0 rfl) rfl rfl (Nat.le_of_ble_eq_true rfl) rfl)) ?_
  refine ed (iv 1048576) rfl rfl (dv_move rfl) ?_
  refine E_call (vs := [bva aB, iv 1048576]) rfl rfl rfl rfl rfl rfl rfl (szBody_ok aB 1048576 _ (haB.keep hS.keep) (by first | assumption | omega | rfl | (simp_all; done))) ?_
  rintro _ H ⟨k3, h4, rfl, hQ⟩
  have hS := hS.up hQ.keep
  refine ed (iv k3) rfl rfl (dv_assign rfl) ?_
  refine E_nil ?_
  refine th_norm ?_
  refine AWp_seq ?_
  refine AWp_seq ?_
  refine AWp_E rfl ?_
  refine ed (iv k3) rfl rfl (dv_move rfl) ?_
  rcases Decidable.em ((k3 : Int) < 0) with hc5 | hc5
  ·
   refine ed yes rfl rfl (dv_bin rfl rfl (bi_lss_t hc5)) ?_
   refine E_nil ?_
   refine th_norm ?_
   refine AWp_cond (t := true) rfl (fun _ => ?_) nofun
   refine AWp_seq ?_
   refine AWp_E rfl ?_
   refine ed yes rfl rfl (dv_assign rfl) ?_
   refine E_nil ?_
   refine th_norm ?_
   refine AWp_ret (th_ret (?_))
   refine ret_of ?_
   refine readsRes_of (rs := [.tmp 8]) (vs := [yes]) rfl (re_cons (re_tmp rfl) (re_nil)) rfl ?_
   refine ⟨rfl, .base hS.keep⟩
  ·
   refine ed no rfl rfl (dv_bin rfl rfl (bi_lss_f hc5)) ?_
   refine E_nil ?_
   refine th_norm ?_
   refine AWp_cond (t := false) rfl nofun (fun _ => ?_)
   refine AWp_skip ?_
   refine th_norm ?_
   refine AWp_seq ?_
   refine AWp_E rfl ?_
   refine ed (sv aV_a aV_n aV_c) rfl rfl (dv_move rfl) ?_
   refine ed (iv k3) rfl rfl (dv_move rfl) ?_
   refine E_call (vs := [sv aV_a aV_n aV_c, iv k3]) rfl rfl rfl rfl rfl rfl rfl (szVectorS_ok aV_a aV_n aV_c aV k3 _ (haV.keep hS.keep) (by first | assumption | omega | rfl | (simp_all; done))) ?_
   rintro _ H ⟨k6, h7, rfl, hQ⟩
   have hS := hS.up hQ.keep
   refine ed (iv k6) rfl rfl (dv_assign rfl) ?_
   refine E_nil ?_
   refine th_norm ?_
   refine AWp_seq ?_
   refine AWp_seq ?_
   refine AWp_E rfl ?_
   refine ed (iv k6) rfl rfl (dv_move rfl) ?_
   rcases Decidable.em ((k6 : Int) < 0) with hc8 | hc8
   ·
    refine ed yes rfl rfl (dv_bin rfl rfl (bi_lss_t hc8)) ?_
    refine E_nil ?_
    refine th_norm ?_
    refine AWp_cond (t := true) rfl (fun _ => ?_) nofun
    refine AWp_seq ?_
    refine AWp_E rfl ?_
    refine ed yes rfl rfl (dv_assign rfl) ?_
    refine E_nil ?_
    refine th_norm ?_
    refine AWp_ret (th_ret (?_))
    refine ret_of ?_
    refine readsRes_of (rs := [.tmp 8]) (vs := [yes]) rfl (re_cons (re_tmp rfl) (re_nil)) rfl ?_
    refine ⟨rfl, .base hS.keep⟩
   ·
    refine ed no rfl rfl (dv_bin rfl rfl (bi_lss_f hc8)) ?_
    refine E_nil ?_
    refine th_norm ?_
    refine AWp_cond (t := false) rfl nofun (fun _ => ?_)
    refine AWp_skip ?_
    refine th_norm ?_
    refine AWp_seq ?_
    refine AWp_E rfl ?_
    refine ed (bva aB) rfl rfl (dv_load rfl (ld_boxA (n := 9) (hS.box 0 rfl) rfl rfl (Nat.le_of_ble_eq_true rfl) rfl)) ?_
    refine E_call (vs := [bva aB]) rfl rfl rfl rfl rfl rfl rfl (toBody_ok aB _ (haB.keep hS.keep)) ?_
    rintro _ H ⟨b9, h10, h11, h12, h13, rfl, hQ⟩
    have hdlh10 : b9.m.ps.length = aB.m.ps.length := congrArg (fun d : Bod => d.m.ps.length) h10
    have hdth10 : (rxs b9.m.ts).length = (rxs aB.m.ts).length := congrArg (fun d : Bod => d.m.ts.length) h10
    simp only [rxs, List.length_map] at hdth10
    have hdsh10 : b9.ss.length = aB.ss.length := congrArg (fun d : Bod => d.ss.length) h10
    have hdwh10 : b9.ws.length = aB.ws.length := congrArg (fun d : Bod => d.ws.length) h10
    have hS := hS.push hQ
    refine ed (sv aHeld_a aHeld_n aHeld_c) rfl rfl (dv_move rfl) ?_
    refine E_call (vs := [sv aHeld_a aHeld_n aHeld_c]) rfl rfl rfl rfl rfl rfl rfl (toInt64S_ok aHeld_a aHeld_n aHeld_c aHeld _ (haHeld.keep hS.keep)) ?_
    rintro _ H ⟨x14, x15, x16, x17, h18, rfl, rfl, hQ⟩
    have hlh18 := congrArg List.length h18
    have hS := hS.push hQ
    refine ed (sv aV_a aV_n aV_c) rfl rfl (dv_move rfl) ?_
    refine E_call (vs := [sv aV_a aV_n aV_c]) rfl rfl rfl rfl rfl rfl rfl (toVectorS_ok aV_a aV_n aV_c aV _ (haV.keep hS.keep)) ?_
    rintro _ H ⟨x19, x20, x21, x22, h23, rfl, rfl, hQ⟩
    have hlh23 := congrArg List.length h23
    have hS := hS.push hQ
    refine ed (fl aStep) rfl rfl (dv_move rfl) ?_
    refine E_call (vs := [bva b9, sv x14 x17.length x16, sv x19 x22.length x21, fl aStep]) rfl rfl rfl rfl rfl rfl rfl (spec_RayleighOf_ok b9 x14 x17.length x16 x17 x19 x22.length x21 x22 aStep _ ⟨⟨⟨(hS.sls 1 rfl), h11.1, (by first | omega | decide)⟩, ⟨rows_of (hS.sls 2 rfl) (hS.at (i := 3) rfl) h12, h11.2, (by omega)⟩⟩, ⟨(hS.sls 4 rfl), h13.1, (by first | omega | decide)⟩, ⟨(hS.sls 5 rfl), h13.2, (by first | omega | decide)⟩⟩ ⟨(hS.sls 6 rfl), rfl, (by first | omega | decide)⟩ ⟨(hS.sls 7 rfl), rfl, (by first | omega | decide)⟩) ?_
    rintro _ H (⟨v24, h25, h26, rfl, hQ⟩ | ⟨v27, h28, rfl, rfl, hQ⟩)
    ·
     simp only [h10, h18, h23] at h25
     simp only [h10, h18, h23] at h26
     have hS := hS.up hQ.keep
     refine ed (.tuple #[fl v24, yes]) rfl rfl (dv_move rfl) ?_
     refine ed (fl v24) rfl rfl (dv_extract rfl rfl) ?_
     refine ed yes rfl rfl (dv_extract rfl rfl) ?_
     refine ed (fl v24) rfl rfl (dv_assign rfl) ?_
     refine ed yes rfl rfl (dv_assign rfl) ?_
     refine E_nil ?_
     refine th_norm ?_
     refine AWp_seq ?_
     refine AWp_E rfl ?_
     refine ed (bva aB) rfl rfl (dv_load rfl (ld_boxA (n := 9) (hS.box 0 rfl) rfl rfl (Nat.le_of_ble_eq_true rfl) rfl)) ?_
     refine E_call (vs := [bva aB]) rfl rfl rfl rfl rfl rfl rfl (toBody_ok aB _ (haB.keep hS.keep)) ?_
     rintro _ H ⟨b29, h30, h31, h32, h33, rfl, hQ⟩
     have hdlh30 : b29.m.ps.length = aB.m.ps.length := congrArg (fun d : Bod => d.m.ps.length) h30
     have hdth30 : (rxs b29.m.ts).length = (rxs aB.m.ts).length := congrArg (fun d : Bod => d.m.ts.length) h30
     simp only [rxs, List.length_map] at hdth30
     have hdsh30 : b29.ss.length = aB.ss.length := congrArg (fun d : Bod => d.ss.length) h30
     have hdwh30 : b29.ws.length = aB.ws.length := congrArg (fun d : Bod => d.ws.length) h30
     have hS := hS.push hQ
     refine S_box (l := [sv none 0 0, sv none 0 0, sv none 0 0, fl 0, fl 0, sv none 0 0, fl 0, fl 0, fl 0]) hS rfl rfl rfl rfl rfl fun b34 H hS => ?_
     refine S_store (i := 13) (yv := bva b29) (l' := [sv b29.m.pa b29.m.pn b29.m.pc, sv b29.m.ta b29.m.tn b29.m.tc, sv b29.sa b29.sn b29.sc, fl b29.film, fl b29.bend, sv b29.wa b29.wn b29.wc, fl b29.fall.x, fl b29.fall.y, fl b29.fall.z]) hS rfl rfl rfl rfl rfl rfl rfl rfl rfl rfl rfl rfl fun H hS => ?_
     refine E_nil ?_
     refine th_norm ?_
     refine AWp_seq ?_
     refine AWp_E rfl ?_
     refine ed (sv aHeld_a aHeld_n aHeld_c) rfl rfl (dv_move rfl) ?_
     refine E_call (vs := [sv aHeld_a aHeld_n aHeld_c]) rfl rfl rfl rfl rfl rfl rfl (toInt64S_ok aHeld_a aHeld_n aHeld_c aHeld _ (haHeld.keep hS.keep)) ?_
     rintro _ H ⟨x35, x36, x37, x38, h39, rfl, rfl, hQ⟩
     have hlh39 := congrArg List.length h39
     have hS := hS.push hQ
     refine ed (sv x35 x38.length x37) rfl rfl (dv_assign rfl) ?_
     refine E_nil ?_
     refine th_norm ?_
     refine AWp_seq ?_
     refine AWp_E rfl ?_
     refine ed (sv aV_a aV_n aV_c) rfl rfl (dv_move rfl) ?_
     refine E_call (vs := [sv aV_a aV_n aV_c]) rfl rfl rfl rfl rfl rfl rfl (toVectorS_ok aV_a aV_n aV_c aV _ (haV.keep hS.keep)) ?_
     rintro _ H ⟨x40, x41, x42, x43, h44, rfl, rfl, hQ⟩
     have hlh44 := congrArg List.length h44
     have hS := hS.push hQ
     refine ed (sv x40 x43.length x42) rfl rfl (dv_assign rfl) ?_
     refine E_nil ?_
     refine th_norm ?_
     refine AWp_seq ?_
     refine AWp_E rfl ?_
     refine ed (bva b29) rfl rfl (dv_load rfl (ld_boxA (n := 9) (hS.box 13 rfl) rfl rfl (Nat.le_of_ble_eq_true rfl) rfl)) ?_
     refine ed (sv x35 x38.length x37) rfl rfl (dv_move rfl) ?_
     refine ed (sv x40 x43.length x42) rfl rfl (dv_move rfl) ?_
     refine ed (fl aStep) rfl rfl (dv_move rfl) ?_
     refine E_call (vs := [bva b29, sv x35 x38.length x37, sv x40 x43.length x42, fl aStep]) rfl rfl rfl rfl rfl rfl rfl (impl_RayleighOf_ok b29 x35 x38.length x37 x38 x40 x43.length x42 x43 aStep _ ⟨⟨⟨(hS.sls 8 rfl), h31.1, (by first | omega | decide)⟩, ⟨rows_of (hS.sls 9 rfl) (hS.at (i := 10) rfl) h32, h31.2, (by omega)⟩⟩, ⟨(hS.sls 11 rfl), h33.1, (by first | omega | decide)⟩, ⟨(hS.sls 12 rfl), h33.2, (by first | omega | decide)⟩⟩ ⟨(hS.sls 14 rfl), rfl, (by first | omega | decide)⟩ ⟨(hS.sls 15 rfl), rfl, (by first | omega | decide)⟩) ?_
     rintro _ H (⟨v45, h46, h47, rfl, hQ⟩ | ⟨v48, h49, rfl, rfl, hQ⟩)
     ·
      simp only [h30, h39, h44] at h46
      simp only [h30, h39, h44] at h47
      have hS := hS.up hQ.keep
      refine ed (.tuple #[fl v45, yes]) rfl rfl (dv_move rfl) ?_
      refine ed (fl v45) rfl rfl (dv_extract rfl rfl) ?_
      refine ed yes rfl rfl (dv_extract rfl rfl) ?_
      refine ed (fl v45) rfl rfl (dv_assign rfl) ?_
      refine ed yes rfl rfl (dv_assign rfl) ?_
      refine E_nil ?_
      refine th_norm ?_
      refine AWp_seq ?_
      refine AWp_seq ?_
      refine AWp_E rfl ?_
      refine ed (fl v45) rfl rfl (dv_move rfl) ?_
      refine ed (fd (up64 v45)) rfl rfl (dv_conv rfl (cv_up rfl rfl rfl)) ?_
      refine ed (fl v24) rfl rfl (dv_move rfl) ?_
      refine ed (fd (up64 v24)) rfl rfl (dv_conv rfl (cv_up rfl rfl rfl)) ?_
      refine E_call (vs := [fd (up64 v45), fd (up64 v24)]) rfl rfl rfl rfl rfl rfl rfl (sameFloat_ok (up64 v45) (up64 v24) _ (congrArg up64 ((h47.symm).trans (h26.symm).symm))) ?_
      rintro _ H ⟨rfl, hQ⟩
      have hS := hS.up hQ.keep
      refine ed no rfl rfl (dv_un rfl rfl) ?_
      refine ed no rfl rfl (dv_move rfl) ?_
      refine ed yes rfl rfl (dv_move rfl) ?_
      refine ed yes rfl rfl (dv_move rfl) ?_
      refine ed no rfl rfl (dv_bin rfl rfl rfl) ?_
      refine ed no rfl rfl (dv_pick (t := false) rfl rfl) ?_
      refine E_nil ?_
      refine th_norm ?_
      refine AWp_cond (t := false) rfl nofun (fun _ => ?_)
      refine AWp_skip ?_
      refine th_norm ?_
      refine AWp_seq ?_
      refine AWp_seq ?_
      have hR := hS.pushes
      have hKb := hS.keep
      have hB := fun Hc (hc : Keep _ Hc) => hR [] Hc (.base hc)
      refine AWp_D0 rfl (by decide +kernel) fun hM => ?_
      refine wd (bva b29) rfl rfl (fun _ hc => dv_load rfl (ld_boxA (n := 9) ((hB _ hc).box 13 rfl) rfl rfl (Nat.le_of_ble_eq_true rfl) rfl)) ?_
      refine wd (bva aB) rfl rfl (fun _ hc => dv_load rfl (ld_boxA (n := 9) ((hB _ hc).box 0 rfl) rfl rfl (Nat.le_of_ble_eq_true rfl) rfl)) ?_
      refine W_call (vs := [bva aB]) rfl rfl rfl rfl rfl rfl rfl (toBody_ok aB _ (haB.keep (hKb.trans hM.keep))) ?_
      rintro _ H ⟨b50, h51, h52, h53, h54, rfl, hQ⟩
      have hdlh51 : b50.m.ps.length = aB.m.ps.length := congrArg (fun d : Bod => d.m.ps.length) h51
      have hdth51 : (rxs b50.m.ts).length = (rxs aB.m.ts).length := congrArg (fun d : Bod => d.m.ts.length) h51
      simp only [rxs, List.length_map] at hdth51
      have hdsh51 : b50.ss.length = aB.ss.length := congrArg (fun d : Bod => d.ss.length) h51
      have hdwh51 : b50.ws.length = aB.ws.length := congrArg (fun d : Bod => d.ws.length) h51
      have hM := hM.push hQ
      refine ⟨hM.keep, ?_⟩
      refine W_call (vs := [bva b29, bva b50]) rfl rfl rfl rfl rfl rfl rfl (eqBody_ok b29 b50 _ ⟨⟨⟨((hR _ _ hM).sls 8 rfl), h31.1, (by first | omega | decide)⟩, ⟨rows_of ((hR _ _ hM).sls 9 rfl) ((hR _ _ hM).at (i := 10) rfl) h32, h31.2, (by omega)⟩⟩, ⟨((hR _ _ hM).sls 11 rfl), h33.1, (by first | omega | decide)⟩, ⟨((hR _ _ hM).sls 12 rfl), h33.2, (by first | omega | decide)⟩⟩ ⟨⟨⟨((hR _ _ hM).sls 16 rfl), h52.1, (by first | omega | decide)⟩, ⟨rows_of ((hR _ _ hM).sls 17 rfl) ((hR _ _ hM).at (i := 18) rfl) h53, h52.2, (by omega)⟩⟩, ⟨((hR _ _ hM).sls 19 rfl), h54.1, (by first | omega | decide)⟩, ⟨((hR _ _ hM).sls 20 rfl), h54.2, (by first | omega | decide)⟩⟩ ((h30).trans (h51).symm)) ?_
      rintro _ H ⟨rfl, hQ⟩
      have hM := hM.up hQ.keep
      refine ⟨hM.keep, ?_⟩
      refine wd no rfl rfl (fun _ hc => dv_un rfl rfl) ?_
      have hS := hR _ _ hM
      refine W_nil ?_
      refine th_norm ?_
      refine AWp_cond (t := false) rfl nofun (fun _ => ?_)
      refine AWp_skip ?_
      refine th_norm ?_
      refine AWp_seq ?_
      refine AWp_seq ?_
      refine AWp_E rfl ?_
      refine ed (sv x35 x38.length x37) rfl rfl (dv_move rfl) ?_
      refine ed (sv aHeld_a aHeld_n aHeld_c) rfl rfl (dv_move rfl) ?_
      refine E_call (vs := [sv aHeld_a aHeld_n aHeld_c]) rfl rfl rfl rfl rfl rfl rfl (toInt64S_ok aHeld_a aHeld_n aHeld_c aHeld _ (haHeld.keep hS.keep)) ?_
      rintro _ H ⟨x55, x56, x57, x58, h59, rfl, rfl, hQ⟩
      have hlh59 := congrArg List.length h59
      have hS := hS.push hQ
      refine E_call (vs := [sv x35 x38.length x37, sv x55 x58.length x57]) rfl rfl rfl rfl rfl rfl rfl (eqInt64S_ok x35 x38.length x37 x38 x55 x58.length x57 x58 _ ⟨(hS.sls 14 rfl), rfl, (by first | omega | decide)⟩ ⟨(hS.sls 21 rfl), rfl, (by first | omega | decide)⟩ ((h39).trans (h59).symm)) ?_
      rintro _ H ⟨rfl, hQ⟩
      have hS := hS.up hQ.keep
      refine ed no rfl rfl (dv_un rfl rfl) ?_
      refine E_nil ?_
      refine th_norm ?_
      refine AWp_cond (t := false) rfl nofun (fun _ => ?_)
      refine AWp_skip ?_
      refine th_norm ?_
      refine AWp_seq ?_
      refine AWp_seq ?_
      refine AWp_E rfl ?_
      refine ed (sv x40 x43.length x42) rfl rfl (dv_move rfl) ?_
      refine ed (sv aV_a aV_n aV_c) rfl rfl (dv_move rfl) ?_
      refine E_call (vs := [sv aV_a aV_n aV_c]) rfl rfl rfl rfl rfl rfl rfl (toVectorS_ok aV_a aV_n aV_c aV _ (haV.keep hS.keep)) ?_
      rintro _ H ⟨x60, x61, x62, x63, h64, rfl, rfl, hQ⟩
      have hlh64 := congrArg List.length h64
      have hS := hS.push hQ
      refine E_call (vs := [sv x40 x43.length x42, sv x60 x63.length x62]) rfl rfl rfl rfl rfl rfl rfl (eqVectorS_ok x40 x43.length x42 x43 x60 x63.length x62 x63 _ ⟨(hS.sls 15 rfl), rfl, (by first | omega | decide)⟩ ⟨(hS.sls 22 rfl), rfl, (by first | omega | decide)⟩ ((h44).trans (h64).symm)) ?_
      rintro _ H ⟨rfl, hQ⟩
      have hS := hS.up hQ.keep
      refine ed no rfl rfl (dv_un rfl rfl) ?_
      refine E_nil ?_
      refine th_norm ?_
      refine AWp_cond (t := false) rfl nofun (fun _ => ?_)
      refine AWp_skip ?_
      refine th_norm ?_
      refine AWp_seq ?_
      refine AWp_E rfl ?_
      refine ed yes rfl rfl (dv_assign rfl) ?_
      refine E_nil ?_
      refine th_norm ?_
      refine AWp_ret (?_)
      refine ret_of ?_
      refine readsRes_of (rs := [.tmp 8]) (vs := [yes]) rfl (re_cons (re_tmp rfl) (re_nil)) rfl ?_
      refine ⟨rfl, .base hS.keep⟩
     ·
      simp only [h30, h39, h44] at h49
      exact absurd h25 h49
    ·
     simp only [h10, h18, h23] at h28
     have hS := hS.up hQ.keep
     refine ed (.tuple #[fl 0, no]) rfl rfl (dv_move rfl) ?_
     refine ed (fl 0) rfl rfl (dv_extract rfl rfl) ?_
     refine ed no rfl rfl (dv_extract rfl rfl) ?_
     refine ed (fl 0) rfl rfl (dv_assign rfl) ?_
     refine ed no rfl rfl (dv_assign rfl) ?_
     refine E_nil ?_
     refine th_norm ?_
     refine AWp_seq ?_
     refine AWp_E rfl ?_
     refine ed (bva aB) rfl rfl (dv_load rfl (ld_boxA (n := 9) (hS.box 0 rfl) rfl rfl (Nat.le_of_ble_eq_true rfl) rfl)) ?_
     refine E_call (vs := [bva aB]) rfl rfl rfl rfl rfl rfl rfl (toBody_ok aB _ (haB.keep hS.keep)) ?_
     rintro _ H ⟨b65, h66, h67, h68, h69, rfl, hQ⟩
     have hdlh66 : b65.m.ps.length = aB.m.ps.length := congrArg (fun d : Bod => d.m.ps.length) h66
     have hdth66 : (rxs b65.m.ts).length = (rxs aB.m.ts).length := congrArg (fun d : Bod => d.m.ts.length) h66
     simp only [rxs, List.length_map] at hdth66
     have hdsh66 : b65.ss.length = aB.ss.length := congrArg (fun d : Bod => d.ss.length) h66
     have hdwh66 : b65.ws.length = aB.ws.length := congrArg (fun d : Bod => d.ws.length) h66
     have hS := hS.push hQ
     refine S_box (l := [sv none 0 0, sv none 0 0, sv none 0 0, fl 0, fl 0, sv none 0 0, fl 0, fl 0, fl 0]) hS rfl rfl rfl rfl rfl fun b70 H hS => ?_
     refine S_store (i := 13) (yv := bva b65) (l' := [sv b65.m.pa b65.m.pn b65.m.pc, sv b65.m.ta b65.m.tn b65.m.tc, sv b65.sa b65.sn b65.sc, fl b65.film, fl b65.bend, sv b65.wa b65.wn b65.wc, fl b65.fall.x, fl b65.fall.y, fl b65.fall.z]) hS rfl rfl rfl rfl rfl rfl rfl rfl rfl rfl rfl rfl fun H hS => ?_
     refine E_nil ?_
     refine th_norm ?_
     refine AWp_seq ?_
     refine AWp_E rfl ?_
     refine ed (sv aHeld_a aHeld_n aHeld_c) rfl rfl (dv_move rfl) ?_
     refine E_call (vs := [sv aHeld_a aHeld_n aHeld_c]) rfl rfl rfl rfl rfl rfl rfl (toInt64S_ok aHeld_a aHeld_n aHeld_c aHeld _ (haHeld.keep hS.keep)) ?_
     rintro _ H ⟨x71, x72, x73, x74, h75, rfl, rfl, hQ⟩
     have hlh75 := congrArg List.length h75
     have hS := hS.push hQ
     refine ed (sv x71 x74.length x73) rfl rfl (dv_assign rfl) ?_
     refine E_nil ?_
     refine th_norm ?_
     refine AWp_seq ?_
     refine AWp_E rfl ?_
     refine ed (sv aV_a aV_n aV_c) rfl rfl (dv_move rfl) ?_
     refine E_call (vs := [sv aV_a aV_n aV_c]) rfl rfl rfl rfl rfl rfl rfl (toVectorS_ok aV_a aV_n aV_c aV _ (haV.keep hS.keep)) ?_
     rintro _ H ⟨x76, x77, x78, x79, h80, rfl, rfl, hQ⟩
     have hlh80 := congrArg List.length h80
     have hS := hS.push hQ
     refine ed (sv x76 x79.length x78) rfl rfl (dv_assign rfl) ?_
     refine E_nil ?_
     refine th_norm ?_
     refine AWp_seq ?_
     refine AWp_E rfl ?_
     refine ed (bva b65) rfl rfl (dv_load rfl (ld_boxA (n := 9) (hS.box 13 rfl) rfl rfl (Nat.le_of_ble_eq_true rfl) rfl)) ?_
     refine ed (sv x71 x74.length x73) rfl rfl (dv_move rfl) ?_
     refine ed (sv x76 x79.length x78) rfl rfl (dv_move rfl) ?_
     refine ed (fl aStep) rfl rfl (dv_move rfl) ?_
     refine E_call (vs := [bva b65, sv x71 x74.length x73, sv x76 x79.length x78, fl aStep]) rfl rfl rfl rfl rfl rfl rfl (impl_RayleighOf_ok b65 x71 x74.length x73 x74 x76 x79.length x78 x79 aStep _ ⟨⟨⟨(hS.sls 8 rfl), h67.1, (by first | omega | decide)⟩, ⟨rows_of (hS.sls 9 rfl) (hS.at (i := 10) rfl) h68, h67.2, (by omega)⟩⟩, ⟨(hS.sls 11 rfl), h69.1, (by first | omega | decide)⟩, ⟨(hS.sls 12 rfl), h69.2, (by first | omega | decide)⟩⟩ ⟨(hS.sls 14 rfl), rfl, (by first | omega | decide)⟩ ⟨(hS.sls 15 rfl), rfl, (by first | omega | decide)⟩) ?_
     rintro _ H (⟨v81, h82, h83, rfl, hQ⟩ | ⟨v84, h85, rfl, rfl, hQ⟩)
     ·
      simp only [h66, h75, h80] at h82
      simp only [h66, h75, h80] at h83
      exact absurd h82 h28
     ·
      simp only [h66, h75, h80] at h85
      have hS := hS.up hQ.keep
      refine ed (.tuple #[fl 0, no]) rfl rfl (dv_move rfl) ?_
      refine ed (fl 0) rfl rfl (dv_extract rfl rfl) ?_
      refine ed no rfl rfl (dv_extract rfl rfl) ?_
      refine ed (fl 0) rfl rfl (dv_assign rfl) ?_
      refine ed no rfl rfl (dv_assign rfl) ?_
      refine E_nil ?_
      refine th_norm ?_
      refine AWp_seq ?_
      refine AWp_seq ?_
      refine AWp_E rfl ?_
      refine ed (fl 0) rfl rfl (dv_move rfl) ?_
      refine ed (fd (up64 0)) rfl rfl (dv_conv rfl (cv_up rfl rfl rfl)) ?_
      refine ed (fl 0) rfl rfl (dv_move rfl) ?_
      refine ed (fd (up64 0)) rfl rfl (dv_conv rfl (cv_up rfl rfl rfl)) ?_
      refine E_call (vs := [fd (up64 0), fd (up64 0)]) rfl rfl rfl rfl rfl rfl rfl (sameFloat_ok (up64 0) (up64 0) _ (rfl)) ?_
      rintro _ H ⟨rfl, hQ⟩
      have hS := hS.up hQ.keep
      refine ed no rfl rfl (dv_un rfl rfl) ?_
      refine ed no rfl rfl (dv_move rfl) ?_
      refine ed no rfl rfl (dv_move rfl) ?_
      refine ed no rfl rfl (dv_move rfl) ?_
      refine ed no rfl rfl (dv_bin rfl rfl rfl) ?_
      refine ed no rfl rfl (dv_pick (t := false) rfl rfl) ?_
      refine E_nil ?_
      refine th_norm ?_
      refine AWp_cond (t := false) rfl nofun (fun _ => ?_)
      refine AWp_skip ?_
      refine th_norm ?_
      refine AWp_seq ?_
      refine AWp_seq ?_
      have hR := hS.pushes
      have hKb := hS.keep
      have hB := fun Hc (hc : Keep _ Hc) => hR [] Hc (.base hc)
      refine AWp_D0 rfl (by decide +kernel) fun hM => ?_
      refine wd (bva b65) rfl rfl (fun _ hc => dv_load rfl (ld_boxA (n := 9) ((hB _ hc).box 13 rfl) rfl rfl (Nat.le_of_ble_eq_true rfl) rfl)) ?_
      refine wd (bva aB) rfl rfl (fun _ hc => dv_load rfl (ld_boxA (n := 9) ((hB _ hc).box 0 rfl) rfl rfl (Nat.le_of_ble_eq_true rfl) rfl)) ?_
      refine W_call (vs := [bva aB]) rfl rfl rfl rfl rfl rfl rfl (toBody_ok aB _ (haB.keep (hKb.trans hM.keep))) ?_
      rintro _ H ⟨b86, h87, h88, h89, h90, rfl, hQ⟩
      have hdlh87 : b86.m.ps.length = aB.m.ps.length := congrArg (fun d : Bod => d.m.ps.length) h87
      have hdth87 : (rxs b86.m.ts).length = (rxs aB.m.ts).length := congrArg (fun d : Bod => d.m.ts.length) h87
      simp only [rxs, List.length_map] at hdth87
      have hdsh87 : b86.ss.length = aB.ss.length := congrArg (fun d : Bod => d.ss.length) h87
      have hdwh87 : b86.ws.length = aB.ws.length := congrArg (fun d : Bod => d.ws.length) h87
      have hM := hM.push hQ
      refine ⟨hM.keep, ?_⟩
      refine W_call (vs := [bva b65, bva b86]) rfl rfl rfl rfl rfl rfl rfl (eqBody_ok b65 b86 _ ⟨⟨⟨((hR _ _ hM).sls 8 rfl), h67.1, (by first | omega | decide)⟩, ⟨rows_of ((hR _ _ hM).sls 9 rfl) ((hR _ _ hM).at (i := 10) rfl) h68, h67.2, (by omega)⟩⟩, ⟨((hR _ _ hM).sls 11 rfl), h69.1, (by first | omega | decide)⟩, ⟨((hR _ _ hM).sls 12 rfl), h69.2, (by first | omega | decide)⟩⟩ ⟨⟨⟨((hR _ _ hM).sls 16 rfl), h88.1, (by first | omega | decide)⟩, ⟨rows_of ((hR _ _ hM).sls 17 rfl) ((hR _ _ hM).at (i := 18) rfl) h89, h88.2, (by omega)⟩⟩, ⟨((hR _ _ hM).sls 19 rfl), h90.1, (by first | omega | decide)⟩, ⟨((hR _ _ hM).sls 20 rfl), h90.2, (by first | omega | decide)⟩⟩ ((h66).trans (h87).symm)) ?_
      rintro _ H ⟨rfl, hQ⟩
      have hM := hM.up hQ.keep
      refine ⟨hM.keep, ?_⟩
      refine wd no rfl rfl (fun _ hc => dv_un rfl rfl) ?_
      have hS := hR _ _ hM
      refine W_nil ?_
      refine th_norm ?_
      refine AWp_cond (t := false) rfl nofun (fun _ => ?_)
      refine AWp_skip ?_
      refine th_norm ?_
      refine AWp_seq ?_
      refine AWp_seq ?_
      refine AWp_E rfl ?_
      refine ed (sv x71 x74.length x73) rfl rfl (dv_move rfl) ?_
      refine ed (sv aHeld_a aHeld_n aHeld_c) rfl rfl (dv_move rfl) ?_
      refine E_call (vs := [sv aHeld_a aHeld_n aHeld_c]) rfl rfl rfl rfl rfl rfl rfl (toInt64S_ok aHeld_a aHeld_n aHeld_c aHeld _ (haHeld.keep hS.keep)) ?_
      rintro _ H ⟨x91, x92, x93, x94, h95, rfl, rfl, hQ⟩
      have hlh95 := congrArg List.length h95
      have hS := hS.push hQ
      refine E_call (vs := [sv x71 x74.length x73, sv x91 x94.length x93]) rfl rfl rfl rfl rfl rfl rfl (eqInt64S_ok x71 x74.length x73 x74 x91 x94.length x93 x94 _ ⟨(hS.sls 14 rfl), rfl, (by first | omega | decide)⟩ ⟨(hS.sls 21 rfl), rfl, (by first | omega | decide)⟩ ((h75).trans (h95).symm)) ?_
      rintro _ H ⟨rfl, hQ⟩
      have hS := hS.up hQ.keep
      refine ed no rfl rfl (dv_un rfl rfl) ?_
      refine E_nil ?_
      refine th_norm ?_
      refine AWp_cond (t := false) rfl nofun (fun _ => ?_)
      refine AWp_skip ?_
      refine th_norm ?_
      refine AWp_seq ?_
      refine AWp_seq ?_
      refine AWp_E rfl ?_
      refine ed (sv x76 x79.length x78) rfl rfl (dv_move rfl) ?_
      refine ed (sv aV_a aV_n aV_c) rfl rfl (dv_move rfl) ?_
      refine E_call (vs := [sv aV_a aV_n aV_c]) rfl rfl rfl rfl rfl rfl rfl (toVectorS_ok aV_a aV_n aV_c aV _ (haV.keep hS.keep)) ?_
      rintro _ H ⟨x96, x97, x98, x99, h100, rfl, rfl, hQ⟩
      have hlh100 := congrArg List.length h100
      have hS := hS.push hQ
      refine E_call (vs := [sv x76 x79.length x78, sv x96 x99.length x98]) rfl rfl rfl rfl rfl rfl rfl (eqVectorS_ok x76 x79.length x78 x79 x96 x99.length x98 x99 _ ⟨(hS.sls 15 rfl), rfl, (by first | omega | decide)⟩ ⟨(hS.sls 22 rfl), rfl, (by first | omega | decide)⟩ ((h80).trans (h100).symm)) ?_
      rintro _ H ⟨rfl, hQ⟩
      have hS := hS.up hQ.keep
      refine ed no rfl rfl (dv_un rfl rfl) ?_
      refine E_nil ?_
      refine th_norm ?_
      refine AWp_cond (t := false) rfl nofun (fun _ => ?_)
      refine AWp_skip ?_
      refine th_norm ?_
      refine AWp_seq ?_
      refine AWp_E rfl ?_
      refine ed yes rfl rfl (dv_assign rfl) ?_
      refine E_nil ?_
      refine th_norm ?_
      refine AWp_ret (?_)
      refine ret_of ?_
      refine readsRes_of (rs := [.tmp 8]) (vs := [yes]) rfl (re_cons (re_tmp rfl) (re_nil)) rfl ?_
      refine ⟨rfl, .base hS.keep⟩
end Go.Ab

/- Walks through functions of the program: what each computes, told over that view of memory; each with the conditions that it tells. -/
import Derived.Test.YtpiidmgenkjiiaaGreatProg
import Derived.Test.YtpiidmgenkjiiaaGreatWf
import Derived.Test.YtpiidmgenkjiiaaGreatWa
set_option maxRecDepth 100000
set_option maxHeartbeats 4000000
namespace Go.Ab
open Go.Proofs
theorem FnExactStiffTimes_ok (aB : LB) (aHeld_a : Option Addr) (aHeld_n aHeld_c : Nat) (aHeld : List (Int)) (aV_a : Option Addr) (aV_n aV_c : Nat) (aV : List (V3)) (aStep : Nat) (H : AH) (haB : aB.ok H) (haHeld : VS H encI aHeld_a aHeld_n aHeld) (haV : VS H encV aV_a aV_n aV) : ACalls Tryz.prog 5 [bva aB, sv aHeld_a aHeld_n aHeld_c, sv aV_a aV_n aV_c, fl aStep] H
  (fun r H' => r = yes ∧ SepL H [] H') := by
 refine ACalls_of Tryz.func5 rfl (Nat.le_of_ble_eq_true rfl) ?_
 obtain ⟨H0, hH0⟩ : ∃ H0, H0 = H := ⟨_, rfl⟩
 have hS : SepL H0 [] H := hH0 ▸ SepL.refl H
 subst hH0
 obtain ⟨⟨haB_1_ps, haB_1_pn, haB_1_pb⟩, haB_1_ts, haB_1_tn, haB_1_tb⟩ := id haB.1
 obtain ⟨⟨haB_ss, haB_sn, haB_sb⟩, haB_ws, haB_wn, haB_wb⟩ := haB.2
 obtain ⟨haHeld_s, haHeld_n, haHeld_b⟩ := id haHeld
 obtain ⟨haV_s, haV_n, haV_b⟩ := id haV
 refine AWp_seq ?_
 refine AWp_E rfl ?_
 refine S_box (l := [sv aB.m.pa aB.m.pn aB.m.pc, sv aB.m.ta aB.m.tn aB.m.tc, sv aB.sa aB.sn aB.sc, fl aB.film, fl aB.bend, sv aB.wa aB.wn aB.wc, fl aB.fall.x, fl aB.fall.y, fl aB.fall.z]) hS rfl rfl rfl rfl rfl fun b1 H hS => ?_
 refine ed no rfl rfl (dv_assign rfl) ?_
 refine E_nil ?_
 refine th_norm ?_
 refine AWp_seq ?_
 refine AWp_seq ?_
 refine AWp_E rfl ?_
 refine ed (sv aHeld_a aHeld_n aHeld_c) rfl rfl (dv_move rfl) ?_
 refine ed (iv ((aHeld_n : Nat) : Int)) rfl rfl (dv_len rfl rfl rfl rfl rfl) ?_
 rcases Decidable.em ((1048576 : Int) < ((aHeld_n : Nat) : Int)) with hc2 | hc2
 ·
  refine ed yes rfl rfl (dv_bin rfl rfl (bi_gtr_t hc2)) ?_
  refine E_nil ?_
  refine th_norm ?_
  refine AWp_cond (t := true) rfl (fun _ => ?_) nofun
  refine AWp_seq ?_
  refine AWp_E rfl ?_
  refine ed yes rfl rfl (dv_assign rfl) ?_
  refine E_nil ?_
  refine th_norm ?_
  refine AWp_ret (th_ret (?_))
  refine ret_of ?_
  refine readsRes_of (rs := [.tmp 8]) (vs := [yes]) rfl (re_cons (re_tmp rfl) (re_nil)) rfl ?_
  refine ⟨rfl, .base hS.keep⟩
 ·
  refine ed no rfl rfl (dv_bin rfl rfl (bi_gtr_f hc2)) ?_
  refine E_nil ?_
  refine th_norm ?_
  refine AWp_cond (t := false) rfl nofun (fun _ => ?_)
  refine AWp_skip ?_
  refine th_norm ?_
  refine AWp_seq ?_
  refine AWp_E rfl ?_
  refine ed (iv 1048576) rfl rfl (dv_assign rfl) ?_
  refine E_nil ?_
  refine th_norm ?_
  refine AWp_seq ?_
  refine AWp_E rfl ?_
  refine ed (bva aB) rfl rfl (dv_load rfl (ld_boxA (n := 9) (hS.box 0 rfl) rfl rfl (Nat.le_of_ble_eq_true rfl) rfl)) ?_
  refine ed (iv 1048576) rfl rfl (dv_move rfl) ?_
  refine E_call (vs := [bva aB, iv 1048576]) rfl rfl rfl rfl rfl rfl rfl (szBody_ok aB 1048576 _ (haB.keep hS.keep) (by first | assumption | omega | rfl | (simp_all; done))) ?_
  rintro _ H ⟨k3, h4, rfl, hQ⟩
  have hS := hS.up hQ.keep
  refine ed (iv k3) rfl rfl (dv_assign rfl) ?_
  refine E_nil ?_
  refine th_norm ?_
  refine AWp_seq ?_
  refine AWp_seq ?_
  refine AWp_E rfl ?_
  refine ed (iv k3) rfl rfl (dv_move rfl) ?_
  rcases Decidable.em ((k3 : Int) < 0) with hc5 | hc5
  ·
   refine ed yes rfl rfl (dv_bin rfl rfl (bi_lss_t hc5)) ?_
   refine E_nil ?_
   refine th_norm ?_
   refine AWp_cond (t := true) rfl (fun _ => ?_) nofun
   refine AWp_seq ?_
   refine AWp_E rfl ?_
   refine ed yes rfl rfl (dv_assign rfl) ?_
   refine E_nil ?_
   refine th_norm ?_
   refine AWp_ret (th_ret (?_))
   refine ret_of ?_
   refine readsRes_of (rs := [.tmp 8]) (vs := [yes]) rfl (re_cons (re_tmp rfl) (re_nil)) rfl ?_
   refine ⟨rfl, .base hS.keep⟩
  ·
   refine ed no rfl rfl (dv_bin rfl rfl (bi_lss_f hc5)) ?_
   refine E_nil ?_
   refine th_norm ?_
   refine AWp_cond (t := false) rfl nofun (fun _ => ?_)
   refine AWp_skip ?_
   refine th_norm ?_
   refine AWp_seq ?_
   refine AWp_E rfl ?_
   refine ed (sv aV_a aV_n aV_c) rfl rfl (dv_move rfl) ?_
   refine ed (iv k3) rfl rfl (dv_move rfl) ?_
   refine E_call (vs := [sv aV_a aV_n aV_c, iv k3]) rfl rfl rfl rfl rfl rfl rfl (szVectorS_ok aV_a aV_n aV_c aV k3 _ (haV.keep hS.keep) (by first | assumption | omega | rfl | (simp_all; done))) ?_
   rintro _ H ⟨k6, h7, rfl, hQ⟩
   have hS := hS.up hQ.keep
   refine ed (iv k6) rfl rfl (dv_assign rfl) ?_
   refine E_nil ?_
   refine th_norm ?_
   refine AWp_seq ?_
   refine AWp_seq ?_
   refine AWp_E rfl ?_
   refine ed (iv k6) rfl rfl (dv_move rfl) ?_
   rcases Decidable.em ((k6 : Int) < 0) with hc8 | hc8
   ·
    refine ed yes rfl rfl (dv_bin rfl rfl (bi_lss_t hc8)) ?_
    refine E_nil ?_
    refine th_norm ?_
    refine AWp_cond (t := true) rfl (fun _ => ?_) nofun
    refine AWp_seq ?_
    refine AWp_E rfl ?_
    refine ed yes rfl rfl (dv_assign rfl) ?_
    refine E_nil ?_
    refine th_norm ?_
    refine AWp_ret (th_ret (?_))
    refine ret_of ?_
    refine readsRes_of (rs := [.tmp 8]) (vs := [yes]) rfl (re_cons (re_tmp rfl) (re_nil)) rfl ?_
    refine ⟨rfl, .base hS.keep⟩
   ·
    refine ed no rfl rfl (dv_bin rfl rfl (bi_lss_f hc8)) ?_
    refine E_nil ?_
    refine th_norm ?_
    refine AWp_cond (t := false) rfl nofun (fun _ => ?_)
    refine AWp_skip ?_
    refine th_norm ?_
    refine AWp_seq ?_
    refine AWp_E rfl ?_
    refine ed (bva aB) rfl rfl (dv_load rfl (ld_boxA (n := 9) (hS.box 0 rfl) rfl rfl (Nat.le_of_ble_eq_true rfl) rfl)) ?_
    refine E_call (vs := [bva aB]) rfl rfl rfl rfl rfl rfl rfl (toBody_ok aB _ (haB.keep hS.keep)) ?_
    rintro _ H ⟨b9, h10, h11, h12, h13, rfl, hQ⟩
    have hdlh10 : b9.m.ps.length = aB.m.ps.length := congrArg (fun d : Bod => d.m.ps.length) h10
    have hdth10 : (rxs b9.m.ts).length = (rxs aB.m.ts).length := congrArg (fun d : Bod => d.m.ts.length) h10
    simp only [rxs, List.length_map] at hdth10
    have hdsh10 : b9.ss.length = aB.ss.length := congrArg (fun d : Bod => d.ss.length) h10
    have hdwh10 : b9.ws.length = aB.ws.length := congrArg (fun d : Bod => d.ws.length) h10
    have hS := hS.push hQ
    refine ed (sv aHeld_a aHeld_n aHeld_c) rfl rfl (dv_move rfl) ?_
    refine E_call (vs := [sv aHeld_a aHeld_n aHeld_c]) rfl rfl rfl rfl rfl rfl rfl (toInt64S_ok aHeld_a aHeld_n aHeld_c aHeld _ (haHeld.keep hS.keep)) ?_
    rintro _ H ⟨x14, x15, x16, x17, h18, rfl, rfl, hQ⟩
    have hlh18 := congrArg List.length h18
    have hS := hS.push hQ
    refine ed (sv aV_a aV_n aV_c) rfl rfl (dv_move rfl) ?_
    refine E_call (vs := [sv aV_a aV_n aV_c]) rfl rfl rfl rfl rfl rfl rfl (toVectorS_ok aV_a aV_n aV_c aV _ (haV.keep hS.keep)) ?_
    rintro _ H ⟨x19, x20, x21, x22, h23, rfl, rfl, hQ⟩
    have hlh23 := congrArg List.length h23
    have hS := hS.push hQ
    refine ed (fl aStep) rfl rfl (dv_move rfl) ?_
    refine E_call (vs := [bva b9, sv x14 x17.length x16, sv x19 x22.length x21, fl aStep]) rfl rfl rfl rfl rfl rfl rfl (spec_StiffTimes_ok b9 x14 x17.length x16 x17 x19 x22.length x21 x22 aStep _ ⟨⟨⟨(hS.sls 1 rfl), h11.1, (by first | omega | decide)⟩, ⟨rows_of (hS.sls 2 rfl) (hS.at (i := 3) rfl) h12, h11.2, (by omega)⟩⟩, ⟨(hS.sls 4 rfl), h13.1, (by first | omega | decide)⟩, ⟨(hS.sls 5 rfl), h13.2, (by first | omega | decide)⟩⟩ ⟨(hS.sls 6 rfl), rfl, (by first | omega | decide)⟩ ⟨(hS.sls 7 rfl), rfl, (by first | omega | decide)⟩) ?_
    rintro _ H (⟨x24, x25, x26, x27, h28, h29, h30, rfl, rfl, hQ⟩ | ⟨h31, rfl, hQ⟩)
    ·
     simp only [h10, h18, h23] at h28
     simp only [h23] at h29
     simp only [h10, h18, h23] at h30
     have hlh30 := congrArg List.length h30
     have hS := hS.push hQ
     refine ed (.tuple #[sv x24 x27.length x26, yes]) rfl rfl (dv_move rfl) ?_
     refine ed (sv x24 x27.length x26) rfl rfl (dv_extract rfl rfl) ?_
     refine ed yes rfl rfl (dv_extract rfl rfl) ?_
     refine ed (sv x24 x27.length x26) rfl rfl (dv_assign rfl) ?_
     refine ed yes rfl rfl (dv_assign rfl) ?_
     refine E_nil ?_
     refine th_norm ?_
     refine AWp_seq ?_
     refine AWp_E rfl ?_
     refine ed (bva aB) rfl rfl (dv_load rfl (ld_boxA (n := 9) (hS.box 0 rfl) rfl rfl (Nat.le_of_ble_eq_true rfl) rfl)) ?_
     refine E_call (vs := [bva aB]) rfl rfl rfl rfl rfl rfl rfl (toBody_ok aB _ (haB.keep hS.keep)) ?_
     rintro _ H ⟨b32, h33, h34, h35, h36, rfl, hQ⟩
     have hdlh33 : b32.m.ps.length = aB.m.ps.length := congrArg (fun d : Bod => d.m.ps.length) h33
     have hdth33 : (rxs b32.m.ts).length = (rxs aB.m.ts).length := congrArg (fun d : Bod => d.m.ts.length) h33
     simp only [rxs, List.length_map] at hdth33
     have hdsh33 : b32.ss.length = aB.ss.length := congrArg (fun d : Bod => d.ss.length) h33
     have hdwh33 : b32.ws.length = aB.ws.length := congrArg (fun d : Bod => d.ws.length) h33
     have hS := hS.push hQ
     refine S_box (l := [sv none 0 0, sv none 0 0, sv none 0 0, fl 0, fl 0, sv none 0 0, fl 0, fl 0, fl 0]) hS rfl rfl rfl rfl rfl fun b37 H hS => ?_
     refine S_store (i := 14) (yv := bva b32) (l' := [sv b32.m.pa b32.m.pn b32.m.pc, sv b32.m.ta b32.m.tn b32.m.tc, sv b32.sa b32.sn b32.sc, fl b32.film, fl b32.bend, sv b32.wa b32.wn b32.wc, fl b32.fall.x, fl b32.fall.y, fl b32.fall.z]) hS rfl rfl rfl rfl rfl rfl rfl rfl rfl rfl rfl rfl fun H hS => ?_
     refine E_nil ?_
     refine th_norm ?_
     refine AWp_seq ?_
     refine AWp_E rfl ?_
     refine ed (sv aHeld_a aHeld_n aHeld_c) rfl rfl (dv_move rfl) ?_
     refine E_call (vs := [sv aHeld_a aHeld_n aHeld_c]) rfl rfl rfl rfl rfl rfl rfl (toInt64S_ok aHeld_a aHeld_n aHeld_c aHeld _ (haHeld.keep hS.keep)) ?_
     rintro _ H ⟨x38, x39, x40, x41, h42, rfl, rfl, hQ⟩
     have hlh42 := congrArg List.length h42
     have hS := hS.push hQ
     refine ed (sv x38 x41.length x40) rfl rfl (dv_assign rfl) ?_
     refine E_nil ?_
     refine th_norm ?_
     refine AWp_seq ?_
     refine AWp_E rfl ?_
     refine ed (sv aV_a aV_n aV_c) rfl rfl (dv_move rfl) ?_
     refine E_call (vs := [sv aV_a aV_n aV_c]) rfl rfl rfl rfl rfl rfl rfl (toVectorS_ok aV_a aV_n aV_c aV _ (haV.keep hS.keep)) ?_
     rintro _ H ⟨x43, x44, x45, x46, h47, rfl, rfl, hQ⟩
     have hlh47 := congrArg List.length h47
     have hS := hS.push hQ
     refine ed (sv x43 x46.length x45) rfl rfl (dv_assign rfl) ?_
     refine E_nil ?_
     refine th_norm ?_
     refine AWp_seq ?_
     refine AWp_E rfl ?_
     refine ed (bva b32) rfl rfl (dv_load rfl (ld_boxA (n := 9) (hS.box 14 rfl) rfl rfl (Nat.le_of_ble_eq_true rfl) rfl)) ?_
     refine ed (sv x38 x41.length x40) rfl rfl (dv_move rfl) ?_
     refine ed (sv x43 x46.length x45) rfl rfl (dv_move rfl) ?_
     refine ed (fl aStep) rfl rfl (dv_move rfl) ?_
     refine E_call (vs := [bva b32, sv x38 x41.length x40, sv x43 x46.length x45, fl aStep]) rfl rfl rfl rfl rfl rfl rfl (impl_StiffTimes_ok b32 x38 x41.length x40 x41 x43 x46.length x45 x46 aStep _ ⟨⟨⟨(hS.sls 9 rfl), h34.1, (by first | omega | decide)⟩, ⟨rows_of (hS.sls 10 rfl) (hS.at (i := 11) rfl) h35, h34.2, (by omega)⟩⟩, ⟨(hS.sls 12 rfl), h36.1, (by first | omega | decide)⟩, ⟨(hS.sls 13 rfl), h36.2, (by first | omega | decide)⟩⟩ ⟨(hS.sls 15 rfl), rfl, (by first | omega | decide)⟩ ⟨(hS.sls 16 rfl), rfl, (by first | omega | decide)⟩) ?_
     rintro _ H (⟨x48, x49, x50, x51, h52, h53, h54, rfl, rfl, hQ⟩ | ⟨h55, rfl, hQ⟩)
     ·
      simp only [h33, h42, h47] at h52
      simp only [h47] at h53
      simp only [h33, h42, h47] at h54
      have hlh54 := congrArg List.length h54
      have hS := hS.push hQ
      refine ed (.tuple #[sv x48 x51.length x50, yes]) rfl rfl (dv_move rfl) ?_
      refine ed (sv x48 x51.length x50) rfl rfl (dv_extract rfl rfl) ?_
      refine ed yes rfl rfl (dv_extract rfl rfl) ?_
      refine ed (sv x48 x51.length x50) rfl rfl (dv_assign rfl) ?_
      refine ed yes rfl rfl (dv_assign rfl) ?_
      refine E_nil ?_
      refine th_norm ?_
      refine AWp_seq ?_
      refine AWp_seq ?_
      refine AWp_E rfl ?_
      refine ed (sv x48 x51.length x50) rfl rfl (dv_move rfl) ?_
      refine ed (sv x24 x27.length x26) rfl rfl (dv_move rfl) ?_
      refine E_call (vs := [sv x48 x51.length x50, sv x24 x27.length x26]) rfl rfl rfl rfl rfl rfl rfl (eqVectorS_ok x48 x51.length x50 x51 x24 x27.length x26 x27 _ ⟨(hS.sls 17 rfl), rfl, (by first | omega | decide)⟩ ⟨(hS.sls 8 rfl), rfl, (by first | omega | decide)⟩ ((h54).trans (h30).symm)) ?_
      rintro _ H ⟨rfl, hQ⟩
      have hS := hS.up hQ.keep
      refine ed no rfl rfl (dv_un rfl rfl) ?_
      refine ed no rfl rfl (dv_move rfl) ?_
      refine ed yes rfl rfl (dv_move rfl) ?_
      refine ed yes rfl rfl (dv_move rfl) ?_
      refine ed no rfl rfl (dv_bin rfl rfl rfl) ?_
      refine ed no rfl rfl (dv_pick (t := false) rfl rfl) ?_
      refine E_nil ?_
      refine th_norm ?_
      refine AWp_cond (t := false) rfl nofun (fun _ => ?_)
      refine AWp_skip ?_
      refine th_norm ?_
      refine AWp_seq ?_
      refine AWp_seq ?_
      have hR := hS.pushes
      have hKb := hS.keep
      have hB := fun Hc (hc : Keep _ Hc) => hR [] Hc (.base hc)
      refine AWp_D0 rfl (by decide +kernel) fun hM => ?_
      refine wd (bva b32) rfl rfl (fun _ hc => dv_load rfl (ld_boxA (n := 9) ((hB _ hc).box 14 rfl) rfl rfl (Nat.le_of_ble_eq_true rfl) rfl)) ?_
      refine wd (bva aB) rfl rfl (fun _ hc => dv_load rfl (ld_boxA (n := 9) ((hB _ hc).box 0 rfl) rfl rfl (Nat.le_of_ble_eq_true rfl) rfl)) ?_
      refine W_call (vs := [bva aB]) rfl rfl rfl rfl rfl rfl rfl (toBody_ok aB _ (haB.keep (hKb.trans hM.keep))) ?_
      rintro _ H ⟨b56, h57, h58, h59, h60, rfl, hQ⟩
      have hdlh57 : b56.m.ps.length = aB.m.ps.length := congrArg (fun d : Bod => d.m.ps.length) h57
      have hdth57 : (rxs b56.m.ts).length = (rxs aB.m.ts).length := congrArg (fun d : Bod => d.m.ts.length) h57
      simp only [rxs, List.length_map] at hdth57
      have hdsh57 : b56.ss.length = aB.ss.length := congrArg (fun d : Bod => d.ss.length) h57
      have hdwh57 : b56.ws.length = aB.ws.length := congrArg (fun d : Bod => d.ws.length) h57
      have hM := hM.push hQ
      refine ⟨hM.keep, ?_⟩
      refine W_call (vs := [bva b32, bva b56]) rfl rfl rfl rfl rfl rfl rfl (eqBody_ok b32 b56 _ ⟨⟨⟨((hR _ _ hM).sls 9 rfl), h34.1, (by first | omega | decide)⟩, ⟨rows_of ((hR _ _ hM).sls 10 rfl) ((hR _ _ hM).at (i := 11) rfl) h35, h34.2, (by omega)⟩⟩, ⟨((hR _ _ hM).sls 12 rfl), h36.1, (by first | omega | decide)⟩, ⟨((hR _ _ hM).sls 13 rfl), h36.2, (by first | omega | decide)⟩⟩ ⟨⟨⟨((hR _ _ hM).sls 18 rfl), h58.1, (by first | omega | decide)⟩, ⟨rows_of ((hR _ _ hM).sls 19 rfl) ((hR _ _ hM).at (i := 20) rfl) h59, h58.2, (by omega)⟩⟩, ⟨((hR _ _ hM).sls 21 rfl), h60.1, (by first | omega | decide)⟩, ⟨((hR _ _ hM).sls 22 rfl), h60.2, (by first | omega | decide)⟩⟩ ((h33).trans (h57).symm)) ?_
      rintro _ H ⟨rfl, hQ⟩
      have hM := hM.up hQ.keep
      refine ⟨hM.keep, ?_⟩
      refine wd no rfl rfl (fun _ hc => dv_un rfl rfl) ?_
      have hS := hR _ _ hM
      refine W_nil ?_
      refine th_norm ?_
      refine AWp_cond (t := false) rfl nofun (fun _ => ?_)
      refine AWp_skip ?_
      refine th_norm ?_
      refine AWp_seq ?_
      refine AWp_seq ?_
      refine AWp_E rfl ?_
      refine ed (sv x38 x41.length x40) rfl rfl (dv_move rfl) ?_
      refine ed (sv aHeld_a aHeld_n aHeld_c) rfl rfl (dv_move rfl) ?_
      refine E_call (vs := [sv aHeld_a aHeld_n aHeld_c]) rfl rfl rfl rfl rfl rfl rfl (toInt64S_ok aHeld_a aHeld_n aHeld_c aHeld _ (haHeld.keep hS.keep)) ?_
      rintro _ H ⟨x61, x62, x63, x64, h65, rfl, rfl, hQ⟩
      have hlh65 := congrArg List.length h65
      have hS := hS.push hQ
      refine E_call (vs := [sv x38 x41.length x40, sv x61 x64.length x63]) rfl rfl rfl rfl rfl rfl rfl (eqInt64S_ok x38 x41.length x40 x41 x61 x64.length x63 x64 _ ⟨(hS.sls 15 rfl), rfl, (by first | omega | decide)⟩ ⟨(hS.sls 23 rfl), rfl, (by first | omega | decide)⟩ ((h42).trans (h65).symm)) ?_
      rintro _ H ⟨rfl, hQ⟩
      have hS := hS.up hQ.keep
      refine ed no rfl rfl (dv_un rfl rfl) ?_
      refine E_nil ?_
      refine th_norm ?_
      refine AWp_cond (t := false) rfl nofun (fun _ => ?_)
      refine AWp_skip ?_
      refine th_norm ?_
      refine AWp_seq ?_
      refine AWp_seq ?_
      refine AWp_E rfl ?_
      refine ed (sv x43 x46.length x45) rfl rfl (dv_move rfl) ?_
      refine ed (sv aV_a aV_n aV_c) rfl rfl (dv_move rfl) ?_
      refine E_call (vs := [sv aV_a aV_n aV_c]) rfl rfl rfl rfl rfl rfl rfl (toVectorS_ok aV_a aV_n aV_c aV _ (haV.keep hS.keep)) ?_
      rintro _ H ⟨x66, x67, x68, x69, h70, rfl, rfl, hQ⟩
      have hlh70 := congrArg List.length h70
      have hS := hS.push hQ
      refine E_call (vs := [sv x43 x46.length x45, sv x66 x69.length x68]) rfl rfl rfl rfl rfl rfl rfl (eqVectorS_ok x43 x46.length x45 x46 x66 x69.length x68 x69 _ ⟨(hS.sls 16 rfl), rfl, (by first | omega | decide)⟩ ⟨(hS.sls 24 rfl), rfl, (by first | omega | decide)⟩ ((h47).trans (h70).symm)) ?_
      rintro _ H ⟨rfl, hQ⟩
      have hS := hS.up hQ.keep
      refine ed no rfl rfl (dv_un rfl rfl) ?_
      refine E_nil ?_
      refine th_norm ?_
      refine AWp_cond (t := false) rfl nofun (fun _ => ?_)
      refine AWp_skip ?_
      refine th_norm ?_
      refine AWp_seq ?_
      refine AWp_E rfl ?_
      refine ed (iv 1) rfl rfl (dv_assign rfl) ?_
      refine E_nil ?_
      refine th_norm ?_
      refine AWp_seq ?_
      refine AWp_E rfl ?_
      refine ed (bva b32) rfl rfl (dv_load rfl (ld_boxA (n := 9) (hS.box 14 rfl) rfl rfl (Nat.le_of_ble_eq_true rfl) rfl)) ?_
      refine ed (iv 1) rfl rfl (dv_move rfl) ?_
      obtain ⟨Hy, hKy, _, hN, hQ⟩ := hS.split [9, 10, 11, 12, 13] rfl
      have hY := hQ [] _ (SepL.refl Hy)
      refine E_call (vs := [bva b32, iv 1]) rfl rfl rfl rfl rfl rfl rfl (markBody_ok b32 1 _ _ ⟨h34.1, h34.2⟩ (by omega) h35 ⟨h36.1, h36.2⟩ (by omega) hN (by first | assumption | omega | rfl | (simp_all; done))) ?_
      rintro _ H ⟨y71, y72, y73, y74, v75, h76, h77, h78, h79, h80, h81, h82, h83, h84, h85, h86, h87, h88, h89, h90, h91, rfl, hP⟩
      have hlh76 := congrArg List.length h76
      have hlh77 := congrArg List.length h77
      have hlh89 := congrArg List.length h89
      have hlh90 := congrArg List.length h90
      have hS : SepL _ [box b1 [sv aB.m.pa aB.m.pn aB.m.pc, sv aB.m.ta aB.m.tn aB.m.tc, sv aB.sa aB.sn aB.sc, fl aB.film, fl aB.bend, sv aB.wa aB.wn aB.wc, fl aB.fall.x, fl aB.fall.y, fl aB.fall.z] 32, sl encV 41 3 b9.m.pa b9.m.pc b9.m.ps, sl encR 53 1 b9.m.ta b9.m.tc b9.m.ts, rowsE 2 b9.m.ts, sl encS 116 4 b9.sa b9.sc b9.ss, sl encF 27 1 b9.wa b9.wc b9.ws, sl encI 2 1 x14 x16 x17, sl encV 41 3 x19 x21 x22, sl encV 41 3 x24 x26 x27, box b37 [sv b32.m.pa b32.m.pn b32.m.pc, sv b32.m.ta b32.m.tn b32.m.tc, sv b32.sa b32.sn b32.sc, fl b32.film, fl b32.bend, sv b32.wa b32.wn b32.wc, fl b32.fall.x, fl b32.fall.y, fl b32.fall.z] 43, sl encI 2 1 x38 x40 x41, sl encV 41 3 x43 x45 x46, sl encV 41 3 x48 x50 x51, sl encV 41 3 b56.m.pa b56.m.pc b56.m.ps, sl encR 53 1 b56.m.ta b56.m.tc b56.m.ts, rowsE 2 b56.m.ts, sl encS 116 4 b56.sa b56.sc b56.ss, sl encF 27 1 b56.wa b56.wc b56.ws, sl encI 2 1 x61 x63 x64, sl encV 41 3 x66 x68 x69, sl encV 41 3 b32.m.pa b32.m.pc y71, sl encR 53 1 b32.m.ta b32.m.tc y72, rowsE 2 y72, sl encS 116 4 b32.sa b32.sc y73, sl encF 27 1 b32.wa b32.wc y74] H := hQ _ _ hP
      refine ed (iv v75) rfl rfl (dv_assign rfl) ?_
      refine E_nil ?_
      refine th_norm ?_
      refine AWp_seq ?_
      refine AWp_E rfl ?_
      refine ed (sv x38 x41.length x40) rfl rfl (dv_move rfl) ?_
      refine ed (iv v75) rfl rfl (dv_move rfl) ?_
      obtain ⟨Hy, hKy, _, hN, hQ⟩ := hS.split [10] rfl
      have hY := hQ [] _ (SepL.refl Hy)
      refine E_call (vs := [sv x38 x41.length x40, iv v75]) rfl rfl rfl rfl rfl rfl rfl (markInt64S_ok x38 x41.length x40 x41 v75 _ _ rfl (by omega) hN (by first | assumption | omega | rfl | (simp_all; done))) ?_
      rintro _ H ⟨y92, v93, h94, h95, h96, rfl, hP⟩
      simp only [h42] at h94
      simp only [h42] at h96
      have hlh94 := congrArg List.length h94
      have hS : SepL _ [box b1 [sv aB.m.pa aB.m.pn aB.m.pc, sv aB.m.ta aB.m.tn aB.m.tc, sv aB.sa aB.sn aB.sc, fl aB.film, fl aB.bend, sv aB.wa aB.wn aB.wc, fl aB.fall.x, fl aB.fall.y, fl aB.fall.z] 32, sl encV 41 3 b9.m.pa b9.m.pc b9.m.ps, sl encR 53 1 b9.m.ta b9.m.tc b9.m.ts, rowsE 2 b9.m.ts, sl encS 116 4 b9.sa b9.sc b9.ss, sl encF 27 1 b9.wa b9.wc b9.ws, sl encI 2 1 x14 x16 x17, sl encV 41 3 x19 x21 x22, sl encV 41 3 x24 x26 x27, box b37 [sv b32.m.pa b32.m.pn b32.m.pc, sv b32.m.ta b32.m.tn b32.m.tc, sv b32.sa b32.sn b32.sc, fl b32.film, fl b32.bend, sv b32.wa b32.wn b32.wc, fl b32.fall.x, fl b32.fall.y, fl b32.fall.z] 43, sl encV 41 3 x43 x45 x46, sl encV 41 3 x48 x50 x51, sl encV 41 3 b56.m.pa b56.m.pc b56.m.ps, sl encR 53 1 b56.m.ta b56.m.tc b56.m.ts, rowsE 2 b56.m.ts, sl encS 116 4 b56.sa b56.sc b56.ss, sl encF 27 1 b56.wa b56.wc b56.ws, sl encI 2 1 x61 x63 x64, sl encV 41 3 x66 x68 x69, sl encV 41 3 b32.m.pa b32.m.pc y71, sl encR 53 1 b32.m.ta b32.m.tc y72, rowsE 2 y72, sl encS 116 4 b32.sa b32.sc y73, sl encF 27 1 b32.wa b32.wc y74, sl encI 2 1 x38 x40 y92] H := hQ _ _ hP
      refine ed (iv v93) rfl rfl (dv_assign rfl) ?_
      refine E_nil ?_
      refine th_norm ?_
      refine AWp_seq ?_
      refine AWp_E rfl ?_
      refine ed (sv x43 x46.length x45) rfl rfl (dv_move rfl) ?_
      refine ed (iv v93) rfl rfl (dv_move rfl) ?_
      obtain ⟨Hy, hKy, _, hN, hQ⟩ := hS.split [10] rfl
      have hY := hQ [] _ (SepL.refl Hy)
      refine E_call (vs := [sv x43 x46.length x45, iv v93]) rfl rfl rfl rfl rfl rfl rfl (markVectorS_ok x43 x46.length x45 x46 v93 _ _ rfl (by omega) hN (by first | assumption | omega | rfl | (simp_all; done))) ?_
      rintro _ H ⟨y97, v98, h99, h100, h101, rfl, hP⟩
      simp only [h47] at h99
      simp only [h47] at h101
      have hlh99 := congrArg List.length h99
      have hS : SepL _ [box b1 [sv aB.m.pa aB.m.pn aB.m.pc, sv aB.m.ta aB.m.tn aB.m.tc, sv aB.sa aB.sn aB.sc, fl aB.film, fl aB.bend, sv aB.wa aB.wn aB.wc, fl aB.fall.x, fl aB.fall.y, fl aB.fall.z] 32, sl encV 41 3 b9.m.pa b9.m.pc b9.m.ps, sl encR 53 1 b9.m.ta b9.m.tc b9.m.ts, rowsE 2 b9.m.ts, sl encS 116 4 b9.sa b9.sc b9.ss, sl encF 27 1 b9.wa b9.wc b9.ws, sl encI 2 1 x14 x16 x17, sl encV 41 3 x19 x21 x22, sl encV 41 3 x24 x26 x27, box b37 [sv b32.m.pa b32.m.pn b32.m.pc, sv b32.m.ta b32.m.tn b32.m.tc, sv b32.sa b32.sn b32.sc, fl b32.film, fl b32.bend, sv b32.wa b32.wn b32.wc, fl b32.fall.x, fl b32.fall.y, fl b32.fall.z] 43, sl encV 41 3 x48 x50 x51, sl encV 41 3 b56.m.pa b56.m.pc b56.m.ps, sl encR 53 1 b56.m.ta b56.m.tc b56.m.ts, rowsE 2 b56.m.ts, sl encS 116 4 b56.sa b56.sc b56.ss, sl encF 27 1 b56.wa b56.wc b56.ws, sl encI 2 1 x61 x63 x64, sl encV 41 3 x66 x68 x69, sl encV 41 3 b32.m.pa b32.m.pc y71, sl encR 53 1 b32.m.ta b32.m.tc y72, rowsE 2 y72, sl encS 116 4 b32.sa b32.sc y73, sl encF 27 1 b32.wa b32.wc y74, sl encI 2 1 x38 x40 y92, sl encV 41 3 x43 x45 y97] H := hQ _ _ hP
      refine ed (iv v98) rfl rfl (dv_assign rfl) ?_
      refine E_nil ?_
      refine th_norm ?_
      refine AWp_seq ?_
      refine AWp_seq ?_
      refine AWp_E rfl ?_
      refine ed (iv v98) rfl rfl (dv_move rfl) ?_
      rcases Decidable.em ((v98 : Int) < 0) with hc102 | hc102
      ·
       refine ed yes rfl rfl (dv_bin rfl rfl (bi_lss_t hc102)) ?_
       refine ed yes rfl rfl (dv_move rfl) ?_
       refine E_skip rfl rfl ?_
       refine E_skip rfl rfl ?_
       refine E_skip rfl rfl ?_
       refine E_skip rfl rfl ?_
       refine ed yes rfl rfl (dv_pick (t := true) rfl rfl) ?_
       refine ed yes rfl rfl (dv_move rfl) ?_
       refine E_skip rfl rfl ?_
       refine E_skip rfl rfl ?_
       refine E_skip rfl rfl ?_
       refine ed yes rfl rfl (dv_pick (t := true) rfl rfl) ?_
       refine E_nil ?_
       refine th_norm ?_
       refine AWp_cond (t := true) rfl (fun _ => ?_) nofun
       refine AWp_seq ?_
       refine AWp_E rfl ?_
       refine ed no rfl rfl (dv_assign rfl) ?_
       refine E_nil ?_
       refine th_norm ?_
       refine AWp_ret (th_ret (?_))
       refine ret_of ?_
       refine readsRes_of (rs := [.tmp 8]) (vs := [no]) rfl (re_cons (re_tmp rfl) (re_nil)) rfl ?_
       exfalso; first | omega | (simp_all; done)
      ·
       refine ed no rfl rfl (dv_bin rfl rfl (bi_lss_f hc102)) ?_
       refine ed no rfl rfl (dv_move rfl) ?_
       refine ed (sv x48 x51.length x50) rfl rfl (dv_move rfl) ?_
       refine ed (sv x24 x27.length x26) rfl rfl (dv_move rfl) ?_
       refine E_call (vs := [sv x48 x51.length x50, sv x24 x27.length x26]) rfl rfl rfl rfl rfl rfl rfl (eqVectorS_ok x48 x51.length x50 x51 x24 x27.length x26 x27 _ ⟨(hS.sls 10 rfl), rfl, (by first | omega | decide)⟩ ⟨(hS.sls 8 rfl), rfl, (by first | omega | decide)⟩ ((h54).trans (h30).symm)) ?_
       rintro _ H ⟨rfl, hQ⟩
       have hS := hS.up hQ.keep
       refine ed no rfl rfl (dv_un rfl rfl) ?_
       refine ed no rfl rfl (dv_pick (t := false) rfl rfl) ?_
       refine ed no rfl rfl (dv_move rfl) ?_
       refine ed yes rfl rfl (dv_move rfl) ?_
       refine ed yes rfl rfl (dv_move rfl) ?_
       refine ed no rfl rfl (dv_bin rfl rfl rfl) ?_
       refine ed no rfl rfl (dv_pick (t := false) rfl rfl) ?_
       refine E_nil ?_
       refine th_norm ?_
       refine AWp_cond (t := false) rfl nofun (fun _ => ?_)
       refine AWp_skip ?_
       refine th_norm ?_
       refine AWp_seq ?_
       refine AWp_E rfl ?_
       refine ed (iv 1) rfl rfl (dv_assign rfl) ?_
       refine E_nil ?_
       refine th_norm ?_
       refine AWp_seq ?_
       refine AWp_E rfl ?_
       refine ed (sv x48 x51.length x50) rfl rfl (dv_move rfl) ?_
       refine ed (iv 1) rfl rfl (dv_move rfl) ?_
       obtain ⟨Hy, hKy, _, hN, hQ⟩ := hS.split [10] rfl
       have hY := hQ [] _ (SepL.refl Hy)
       refine E_call (vs := [sv x48 x51.length x50, iv 1]) rfl rfl rfl rfl rfl rfl rfl (markVectorS_ok x48 x51.length x50 x51 1 _ _ rfl (by omega) hN (by first | assumption | omega | rfl | (simp_all; done))) ?_
       rintro _ H ⟨y103, v104, h105, h106, h107, rfl, hP⟩
       simp only [h54] at h105
       simp only [h54] at h107
       have hlh105 := congrArg List.length h105
       have hS : SepL _ [box b1 [sv aB.m.pa aB.m.pn aB.m.pc, sv aB.m.ta aB.m.tn aB.m.tc, sv aB.sa aB.sn aB.sc, fl aB.film, fl aB.bend, sv aB.wa aB.wn aB.wc, fl aB.fall.x, fl aB.fall.y, fl aB.fall.z] 32, sl encV 41 3 b9.m.pa b9.m.pc b9.m.ps, sl encR 53 1 b9.m.ta b9.m.tc b9.m.ts, rowsE 2 b9.m.ts, sl encS 116 4 b9.sa b9.sc b9.ss, sl encF 27 1 b9.wa b9.wc b9.ws, sl encI 2 1 x14 x16 x17, sl encV 41 3 x19 x21 x22, sl encV 41 3 x24 x26 x27, box b37 [sv b32.m.pa b32.m.pn b32.m.pc, sv b32.m.ta b32.m.tn b32.m.tc, sv b32.sa b32.sn b32.sc, fl b32.film, fl b32.bend, sv b32.wa b32.wn b32.wc, fl b32.fall.x, fl b32.fall.y, fl b32.fall.z] 43, sl encV 41 3 b56.m.pa b56.m.pc b56.m.ps, sl encR 53 1 b56.m.ta b56.m.tc b56.m.ts, rowsE 2 b56.m.ts, sl encS 116 4 b56.sa b56.sc b56.ss, sl encF 27 1 b56.wa b56.wc b56.ws, sl encI 2 1 x61 x63 x64, sl encV 41 3 x66 x68 x69, sl encV 41 3 b32.m.pa b32.m.pc y71, sl encR 53 1 b32.m.ta b32.m.tc y72, rowsE 2 y72, sl encS 116 4 b32.sa b32.sc y73, sl encF 27 1 b32.wa b32.wc y74, sl encI 2 1 x38 x40 y92, sl encV 41 3 x43 x45 y97, sl encV 41 3 x48 x50 y103] H := hQ _ _ hP
       refine ed (iv v104) rfl rfl (dv_assign rfl) ?_
       refine E_nil ?_
       refine th_norm ?_
       refine AWp_seq ?_
       refine AWp_E rfl ?_
       refine ed (iv 1) rfl rfl (dv_assign rfl) ?_
       refine E_nil ?_
       refine th_norm ?_
       refine AWp_seq ?_
       refine AWp_E rfl ?_
       refine ed (sv x48 x51.length x50) rfl rfl (dv_move rfl) ?_
       refine ed (iv 1) rfl rfl (dv_move rfl) ?_
       refine E_call (vs := [sv x48 x51.length x50, iv 1]) rfl rfl rfl rfl rfl rfl rfl (heldVectorS_ok x48 x51.length x50 y103 1 _ ⟨(hS.sls 24 rfl), h106, (by first | omega | decide)⟩ (by first | assumption | omega | rfl | (simp_all; done)) (by first | assumption | omega | rfl | (simp_all; done))) ?_
       rintro _ H ⟨v108, h109, rfl, hQ⟩
       simp only [h54] at h109
       have hS := hS.up hQ.keep
       refine ed (iv v108) rfl rfl (dv_assign rfl) ?_
       refine E_nil ?_
       refine th_norm ?_
       refine AWp_seq ?_
       refine AWp_seq ?_
       refine AWp_E rfl ?_
       refine ed (iv v108) rfl rfl (dv_move rfl) ?_
       rcases Decidable.em ((v108 : Int) < 0) with hc110 | hc110
       ·
        refine ed yes rfl rfl (dv_bin rfl rfl (bi_lss_t hc110)) ?_
        refine E_nil ?_
        refine th_norm ?_
        refine AWp_cond (t := true) rfl (fun _ => ?_) nofun
        refine AWp_seq ?_
        refine AWp_E rfl ?_
        refine ed no rfl rfl (dv_assign rfl) ?_
        refine E_nil ?_
        refine th_norm ?_
        refine AWp_ret (th_ret (?_))
        refine ret_of ?_
        refine readsRes_of (rs := [.tmp 8]) (vs := [no]) rfl (re_cons (re_tmp rfl) (re_nil)) rfl ?_
        exfalso; first | omega | (simp_all; done)
       ·
        refine ed no rfl rfl (dv_bin rfl rfl (bi_lss_f hc110)) ?_
        refine E_nil ?_
        refine th_norm ?_
        refine AWp_cond (t := false) rfl nofun (fun _ => ?_)
        refine AWp_skip ?_
        refine th_norm ?_
        refine AWp_seq ?_
        refine AWp_seq ?_
        refine AWp_E rfl ?_
        refine ed (iv v108) rfl rfl (dv_move rfl) ?_
        refine ed (iv v104) rfl rfl (dv_move rfl) ?_
        rcases Decidable.em ((v108 : Int) ≠ v104) with hc111 | hc111
        ·
         refine ed yes rfl rfl (dv_bin rfl rfl (bi_neq_t hc111)) ?_
         refine E_nil ?_
         refine th_norm ?_
         refine AWp_cond (t := true) rfl (fun _ => ?_) nofun
         refine AWp_seq ?_
         refine AWp_E rfl ?_
         refine ed no rfl rfl (dv_assign rfl) ?_
         refine E_nil ?_
         refine th_norm ?_
         refine AWp_ret (th_ret (?_))
         refine ret_of ?_
         refine readsRes_of (rs := [.tmp 8]) (vs := [no]) rfl (re_cons (re_tmp rfl) (re_nil)) rfl ?_
         exfalso; first | omega | (simp_all; done)
        ·
         refine ed no rfl rfl (dv_bin rfl rfl (bi_neq_f hc111)) ?_
         refine E_nil ?_
         refine th_norm ?_
         refine AWp_cond (t := false) rfl nofun (fun _ => ?_)
         refine AWp_skip ?_
         refine th_norm ?_
         refine AWp_seq ?_
         refine AWp_E rfl ?_
         refine ed (bva aB) rfl rfl (dv_load rfl (ld_boxA (n := 9) (hS.box 0 rfl) rfl rfl (Nat.le_of_ble_eq_true rfl) rfl)) ?_
         refine E_call (vs := [bva aB]) rfl rfl rfl rfl rfl rfl rfl (toBody_ok aB _ (haB.keep hS.keep)) ?_
         rintro _ H ⟨b112, h113, h114, h115, h116, rfl, hQ⟩
         have hdlh113 : b112.m.ps.length = aB.m.ps.length := congrArg (fun d : Bod => d.m.ps.length) h113
         have hdth113 : (rxs b112.m.ts).length = (rxs aB.m.ts).length := congrArg (fun d : Bod => d.m.ts.length) h113
         simp only [rxs, List.length_map] at hdth113
         have hdsh113 : b112.ss.length = aB.ss.length := congrArg (fun d : Bod => d.ss.length) h113
         have hdwh113 : b112.ws.length = aB.ws.length := congrArg (fun d : Bod => d.ws.length) h113
         have hS := hS.push hQ
         refine ed (sv aHeld_a aHeld_n aHeld_c) rfl rfl (dv_move rfl) ?_
         refine E_call (vs := [sv aHeld_a aHeld_n aHeld_c]) rfl rfl rfl rfl rfl rfl rfl (toInt64S_ok aHeld_a aHeld_n aHeld_c aHeld _ (haHeld.keep hS.keep)) ?_
         rintro _ H ⟨x117, x118, x119, x120, h121, rfl, rfl, hQ⟩
         have hlh121 := congrArg List.length h121
         have hS := hS.push hQ
         refine ed (sv aV_a aV_n aV_c) rfl rfl (dv_move rfl) ?_
         refine E_call (vs := [sv aV_a aV_n aV_c]) rfl rfl rfl rfl rfl rfl rfl (toVectorS_ok aV_a aV_n aV_c aV _ (haV.keep hS.keep)) ?_
         rintro _ H ⟨x122, x123, x124, x125, h126, rfl, rfl, hQ⟩
         have hlh126 := congrArg List.length h126
         have hS := hS.push hQ
         refine ed (fl aStep) rfl rfl (dv_move rfl) ?_
         refine E_call (vs := [bva b112, sv x117 x120.length x119, sv x122 x125.length x124, fl aStep]) rfl rfl rfl rfl rfl rfl rfl (impl_StiffTimes_ok b112 x117 x120.length x119 x120 x122 x125.length x124 x125 aStep _ ⟨⟨⟨(hS.sls 25 rfl), h114.1, (by first | omega | decide)⟩, ⟨rows_of (hS.sls 26 rfl) (hS.at (i := 27) rfl) h115, h114.2, (by omega)⟩⟩, ⟨(hS.sls 28 rfl), h116.1, (by first | omega | decide)⟩, ⟨(hS.sls 29 rfl), h116.2, (by first | omega | decide)⟩⟩ ⟨(hS.sls 30 rfl), rfl, (by first | omega | decide)⟩ ⟨(hS.sls 31 rfl), rfl, (by first | omega | decide)⟩) ?_
         rintro _ H (⟨x127, x128, x129, x130, h131, h132, h133, rfl, rfl, hQ⟩ | ⟨h134, rfl, hQ⟩)
         ·
          simp only [h113, h121, h126] at h131
          simp only [h126] at h132
          simp only [h113, h121, h126] at h133
          have hlh133 := congrArg List.length h133
          have hS := hS.push hQ
          refine ed (.tuple #[sv x127 x130.length x129, yes]) rfl rfl (dv_move rfl) ?_
          refine ed (sv x127 x130.length x129) rfl rfl (dv_extract rfl rfl) ?_
          refine ed yes rfl rfl (dv_extract rfl rfl) ?_
          refine ed (sv x127 x130.length x129) rfl rfl (dv_assign rfl) ?_
          refine ed yes rfl rfl (dv_assign rfl) ?_
          refine E_nil ?_
          refine th_norm ?_
          refine AWp_seq ?_
          refine AWp_seq ?_
          refine AWp_E rfl ?_
          refine ed (sv x127 x130.length x129) rfl rfl (dv_move rfl) ?_
          refine ed (sv x24 x27.length x26) rfl rfl (dv_move rfl) ?_
          refine E_call (vs := [sv x127 x130.length x129, sv x24 x27.length x26]) rfl rfl rfl rfl rfl rfl rfl (eqVectorS_ok x127 x130.length x129 x130 x24 x27.length x26 x27 _ ⟨(hS.sls 32 rfl), rfl, (by first | omega | decide)⟩ ⟨(hS.sls 8 rfl), rfl, (by first | omega | decide)⟩ ((h133).trans (h30).symm)) ?_
          rintro _ H ⟨rfl, hQ⟩
          have hS := hS.up hQ.keep
          refine ed no rfl rfl (dv_un rfl rfl) ?_
          refine ed no rfl rfl (dv_move rfl) ?_
          refine ed yes rfl rfl (dv_move rfl) ?_
          refine ed yes rfl rfl (dv_move rfl) ?_
          refine ed no rfl rfl (dv_bin rfl rfl rfl) ?_
          refine ed no rfl rfl (dv_pick (t := false) rfl rfl) ?_
          refine E_nil ?_
          refine th_norm ?_
          refine AWp_cond (t := false) rfl nofun (fun _ => ?_)
          refine AWp_skip ?_
          refine th_norm ?_
          refine AWp_seq ?_
          refine AWp_E rfl ?_
          refine ed (iv 1) rfl rfl (dv_assign rfl) ?_
          refine E_nil ?_
          refine th_norm ?_
          refine AWp_seq ?_
          refine AWp_E rfl ?_
          refine ed (sv x48 x51.length x50) rfl rfl (dv_move rfl) ?_
          refine ed (iv 1) rfl rfl (dv_move rfl) ?_
          refine E_call (vs := [sv x48 x51.length x50, iv 1]) rfl rfl rfl rfl rfl rfl rfl (heldVectorS_ok x48 x51.length x50 y103 1 _ ⟨(hS.sls 24 rfl), h106, (by first | omega | decide)⟩ (by first | assumption | omega | rfl | (simp_all; done)) (by first | assumption | omega | rfl | (simp_all; done))) ?_
          rintro _ H ⟨v135, h136, rfl, hQ⟩
          simp only [h54] at h136
          have hS := hS.up hQ.keep
          refine ed (iv v135) rfl rfl (dv_assign rfl) ?_
          refine E_nil ?_
          refine th_norm ?_
          refine AWp_seq ?_
          refine AWp_seq ?_
          refine AWp_E rfl ?_
          refine ed (iv v135) rfl rfl (dv_move rfl) ?_
          rcases Decidable.em ((v135 : Int) < 0) with hc137 | hc137
          ·
           refine ed yes rfl rfl (dv_bin rfl rfl (bi_lss_t hc137)) ?_
           refine E_nil ?_
           refine th_norm ?_
           refine AWp_cond (t := true) rfl (fun _ => ?_) nofun
           refine AWp_seq ?_
           refine AWp_E rfl ?_
           refine ed no rfl rfl (dv_assign rfl) ?_
           refine E_nil ?_
           refine th_norm ?_
           refine AWp_ret (th_ret (?_))
           refine ret_of ?_
           refine readsRes_of (rs := [.tmp 8]) (vs := [no]) rfl (re_cons (re_tmp rfl) (re_nil)) rfl ?_
           exfalso; first | omega | (simp_all; done)
          ·
           refine ed no rfl rfl (dv_bin rfl rfl (bi_lss_f hc137)) ?_
           refine E_nil ?_
           refine th_norm ?_
           refine AWp_cond (t := false) rfl nofun (fun _ => ?_)
           refine AWp_skip ?_
           refine th_norm ?_
           refine AWp_seq ?_
           refine AWp_seq ?_
           refine AWp_E rfl ?_
           refine ed (iv v135) rfl rfl (dv_move rfl) ?_
           refine ed (iv v104) rfl rfl (dv_move rfl) ?_
           rcases Decidable.em ((v135 : Int) ≠ v104) with hc138 | hc138
           ·
            refine ed yes rfl rfl (dv_bin rfl rfl (bi_neq_t hc138)) ?_
            refine E_nil ?_
            refine th_norm ?_
            refine AWp_cond (t := true) rfl (fun _ => ?_) nofun
            refine AWp_seq ?_
            refine AWp_E rfl ?_
            refine ed no rfl rfl (dv_assign rfl) ?_
            refine E_nil ?_
            refine th_norm ?_
            refine AWp_ret (th_ret (?_))
            refine ret_of ?_
            refine readsRes_of (rs := [.tmp 8]) (vs := [no]) rfl (re_cons (re_tmp rfl) (re_nil)) rfl ?_
            exfalso; first | omega | (simp_all; done)
           ·
            refine ed no rfl rfl (dv_bin rfl rfl (bi_neq_f hc138)) ?_
            refine E_nil ?_
            refine th_norm ?_
            refine AWp_cond (t := false) rfl nofun (fun _ => ?_)
            refine AWp_skip ?_
            refine th_norm ?_
            refine AWp_seq ?_
            refine AWp_E rfl ?_
            refine ed yes rfl rfl (dv_assign rfl) ?_
            refine E_nil ?_
            refine th_norm ?_
            refine AWp_ret (?_)
            refine ret_of ?_
            refine readsRes_of (rs := [.tmp 8]) (vs := [yes]) rfl (re_cons (re_tmp rfl) (re_nil)) rfl ?_
            refine ⟨rfl, .base hS.keep⟩
         ·
          simp only [h113, h121, h126] at h134
          exact absurd h52 h134
     ·
      simp only [h33, h42, h47] at h55
      exact absurd h28 h55
    ·
     simp only [h10, h18, h23] at h31
     have hS := hS.up hQ.keep
     refine ed (.tuple #[sv none 0 0, no]) rfl rfl (dv_move rfl) ?_
     refine ed (sv none 0 0) rfl rfl (dv_extract rfl rfl) ?_
     refine ed no rfl rfl (dv_extract rfl rfl) ?_
     refine ed (sv none 0 0) rfl rfl (dv_assign rfl) ?_
     refine ed no rfl rfl (dv_assign rfl) ?_
     refine E_nil ?_
     refine th_norm ?_
     refine AWp_seq ?_
     refine AWp_E rfl ?_
     refine ed (bva aB) rfl rfl (dv_load rfl (ld_boxA (n := 9) (hS.box 0 rfl) rfl rfl (Nat.le_of_ble_eq_true rfl) rfl)) ?_
     refine E_call (vs := [bva aB]) rfl rfl rfl rfl rfl rfl rfl (toBody_ok aB _ (haB.keep hS.keep)) ?_
     rintro _ H ⟨b139, h140, h141, h142, h143, rfl, hQ⟩
     have hdlh140 : b139.m.ps.length = aB.m.ps.length := congrArg (fun d : Bod => d.m.ps.length) h140
     have hdth140 : (rxs b139.m.ts).length = (rxs aB.m.ts).length := congrArg (fun d : Bod => d.m.ts.length) h140
     simp only [rxs, List.length_map] at hdth140
     have hdsh140 : b139.ss.length = aB.ss.length := congrArg (fun d : Bod => d.ss.length) h140
     have hdwh140 : b139.ws.length = aB.ws.length := congrArg (fun d : Bod => d.ws.length) h140
     have hS := hS.push hQ
     refine S_box (l := [sv none 0 0, sv none 0 0, sv none 0 0, fl 0, fl 0, sv none 0 0, fl 0, fl 0, fl 0]) hS rfl rfl rfl rfl rfl fun b144 H hS => ?_
     refine S_store (i := 13) (yv := bva b139) (l' := [sv b139.m.pa b139.m.pn b139.m.pc, sv b139.m.ta b139.m.tn b139.m.tc, sv b139.sa b139.sn b139.sc, fl b139.film, fl b139.bend, sv b139.wa b139.wn b139.wc, fl b139.fall.x, fl b139.fall.y, fl b139.fall.z]) hS rfl rfl rfl rfl rfl rfl rfl rfl rfl rfl rfl rfl fun H hS => ?_
     refine E_nil ?_
     refine th_norm ?_
     refine AWp_seq ?_
     refine AWp_E rfl ?_
     refine ed (sv aHeld_a aHeld_n aHeld_c) rfl rfl (dv_move rfl) ?_
     refine E_call (vs := [sv aHeld_a aHeld_n aHeld_c]) rfl rfl rfl rfl rfl rfl rfl (toInt64S_ok aHeld_a aHeld_n aHeld_c aHeld _ (haHeld.keep hS.keep)) ?_
     rintro _ H ⟨x145, x146, x147, x148, h149, rfl, rfl, hQ⟩
     have hlh149 := congrArg List.length h149
     have hS := hS.push hQ
     refine ed (sv x145 x148.length x147) rfl rfl (dv_assign rfl) ?_
     refine E_nil ?_
     refine th_norm ?_
     refine AWp_seq ?_
     refine AWp_E rfl ?_
     refine ed (sv aV_a aV_n aV_c) rfl rfl (dv_move rfl) ?_
     refine E_call (vs := [sv aV_a aV_n aV_c]) rfl rfl rfl rfl rfl rfl rfl (toVectorS_ok aV_a aV_n aV_c aV _ (haV.keep hS.keep)) ?_
     rintro _ H ⟨x150, x151, x152, x153, h154, rfl, rfl, hQ⟩
     have hlh154 := congrArg List.length h154
     have hS := hS.push hQ
     refine ed (sv x150 x153.length x152) rfl rfl (dv_assign rfl) ?_
     refine E_nil ?_
     refine th_norm ?_
     refine AWp_seq ?_
     refine AWp_E rfl ?_
     refine ed (bva b139) rfl rfl (dv_load rfl (ld_boxA (n := 9) (hS.box 13 rfl) rfl rfl (Nat.le_of_ble_eq_true rfl) rfl)) ?_
     refine ed (sv x145 x148.length x147) rfl rfl (dv_move rfl) ?_
     refine ed (sv x150 x153.length x152) rfl rfl (dv_move rfl) ?_
     refine ed (fl aStep) rfl rfl (dv_move rfl) ?_
     refine E_call (vs := [bva b139, sv x145 x148.length x147, sv x150 x153.length x152, fl aStep]) rfl rfl rfl rfl rfl rfl rfl (impl_StiffTimes_ok b139 x145 x148.length x147 x148 x150 x153.length x152 x153 aStep _ ⟨⟨⟨(hS.sls 8 rfl), h141.1, (by first | omega | decide)⟩, ⟨rows_of (hS.sls 9 rfl) (hS.at (i := 10) rfl) h142, h141.2, (by omega)⟩⟩, ⟨(hS.sls 11 rfl), h143.1, (by first | omega | decide)⟩, ⟨(hS.sls 12 rfl), h143.2, (by first | omega | decide)⟩⟩ ⟨(hS.sls 14 rfl), rfl, (by first | omega | decide)⟩ ⟨(hS.sls 15 rfl), rfl, (by first | omega | decide)⟩) ?_
     rintro _ H (⟨x155, x156, x157, x158, h159, h160, h161, rfl, rfl, hQ⟩ | ⟨h162, rfl, hQ⟩)
     ·
      simp only [h140, h149, h154] at h159
      simp only [h154] at h160
      simp only [h140, h149, h154] at h161
      exact absurd h159 h31
     ·
      simp only [h140, h149, h154] at h162
      have hS := hS.up hQ.keep
      refine ed (.tuple #[sv none 0 0, no]) rfl rfl (dv_move rfl) ?_
      refine ed (sv none 0 0) rfl rfl (dv_extract rfl rfl) ?_
      refine ed no rfl rfl (dv_extract rfl rfl) ?_
      refine ed (sv none 0 0) rfl rfl (dv_assign rfl) ?_
      refine ed no rfl rfl (dv_assign rfl) ?_
      refine E_nil ?_
      refine th_norm ?_
      refine AWp_seq ?_
      refine AWp_seq ?_
      refine AWp_E rfl ?_
      refine ed (sv none 0 0) rfl rfl (dv_move rfl) ?_
      refine ed (sv none 0 0) rfl rfl (dv_move rfl) ?_
      refine E_call (vs := [sv none 0 0, sv none 0 0]) rfl rfl rfl rfl rfl rfl rfl (eqVectorS_ok none 0 0 [] none 0 0 [] _ ⟨.nil, rfl, by decide⟩ ⟨.nil, rfl, by decide⟩ (rfl)) ?_
      rintro _ H ⟨rfl, hQ⟩
      have hS := hS.up hQ.keep
      refine ed no rfl rfl (dv_un rfl rfl) ?_
      refine ed no rfl rfl (dv_move rfl) ?_
      refine ed no rfl rfl (dv_move rfl) ?_
      refine ed no rfl rfl (dv_move rfl) ?_
      refine ed no rfl rfl (dv_bin rfl rfl rfl) ?_
      refine ed no rfl rfl (dv_pick (t := false) rfl rfl) ?_
      refine E_nil ?_
      refine th_norm ?_
      refine AWp_cond (t := false) rfl nofun (fun _ => ?_)
      refine AWp_skip ?_
      refine th_norm ?_
      refine AWp_seq ?_
      refine AWp_seq ?_
      have hR := hS.pushes
      have hKb := hS.keep
      have hB := fun Hc (hc : Keep _ Hc) => hR [] Hc (.base hc)
      refine AWp_D0 rfl (by decide +kernel) fun hM => ?_
      refine wd (bva b139) rfl rfl (fun _ hc => dv_load rfl (ld_boxA (n := 9) ((hB _ hc).box 13 rfl) rfl rfl (Nat.le_of_ble_eq_true rfl) rfl)) ?_
      refine wd (bva aB) rfl rfl (fun _ hc => dv_load rfl (ld_boxA (n := 9) ((hB _ hc).box 0 rfl) rfl rfl (Nat.le_of_ble_eq_true rfl) rfl)) ?_
      refine W_call (vs := [bva aB]) rfl rfl rfl rfl rfl rfl rfl (toBody_ok aB _ (haB.keep (hKb.trans hM.keep))) ?_
      rintro _ H ⟨b163, h164, h165, h166, h167, rfl, hQ⟩
      have hdlh164 : b163.m.ps.length = aB.m.ps.length := congrArg (fun d : Bod => d.m.ps.length) h164
      have hdth164 : (rxs b163.m.ts).length = (rxs aB.m.ts).length := congrArg (fun d : Bod => d.m.ts.length) h164
      simp only [rxs, List.length_map] at hdth164
      have hdsh164 : b163.ss.length = aB.ss.length := congrArg (fun d : Bod => d.ss.length) h164
      have hdwh164 : b163.ws.length = aB.ws.length := congrArg (fun d : Bod => d.ws.length) h164
      have hM := hM.push hQ
      refine ⟨hM.keep, ?_⟩
      refine W_call (vs := [bva b139, bva b163]) rfl rfl rfl rfl rfl rfl rfl (eqBody_ok b139 b163 _ ⟨⟨⟨((hR _ _ hM).sls 8 rfl), h141.1, (by first | omega | decide)⟩, ⟨rows_of ((hR _ _ hM).sls 9 rfl) ((hR _ _ hM).at (i := 10) rfl) h142, h141.2, (by omega)⟩⟩, ⟨((hR _ _ hM).sls 11 rfl), h143.1, (by first | omega | decide)⟩, ⟨((hR _ _ hM).sls 12 rfl), h143.2, (by first | omega | decide)⟩⟩ ⟨⟨⟨((hR _ _ hM).sls 16 rfl), h165.1, (by first | omega | decide)⟩, ⟨rows_of ((hR _ _ hM).sls 17 rfl) ((hR _ _ hM).at (i := 18) rfl) h166, h165.2, (by omega)⟩⟩, ⟨((hR _ _ hM).sls 19 rfl), h167.1, (by first | omega | decide)⟩, ⟨((hR _ _ hM).sls 20 rfl), h167.2, (by first | omega | decide)⟩⟩ ((h140).trans (h164).symm)) ?_
      rintro _ H ⟨rfl, hQ⟩
      have hM := hM.up hQ.keep
      refine ⟨hM.keep, ?_⟩
      refine wd no rfl rfl (fun _ hc => dv_un rfl rfl) ?_
      have hS := hR _ _ hM
      refine W_nil ?_
      refine th_norm ?_
      refine AWp_cond (t := false) rfl nofun (fun _ => ?_)
      refine AWp_skip ?_
      refine th_norm ?_
      refine AWp_seq ?_
      refine AWp_seq ?_
      refine AWp_E rfl ?_
      refine ed (sv x145 x148.length x147) rfl rfl (dv_move rfl) ?_
      refine ed (sv aHeld_a aHeld_n aHeld_c) rfl rfl (dv_move rfl) ?_
      refine E_call (vs := [sv aHeld_a aHeld_n aHeld_c]) rfl rfl rfl rfl rfl rfl rfl (toInt64S_ok aHeld_a aHeld_n aHeld_c aHeld _ (haHeld.keep hS.keep)) ?_
      rintro _ H ⟨x168, x169, x170, x171, h172, rfl, rfl, hQ⟩
      have hlh172 := congrArg List.length h172
      have hS := hS.push hQ
      refine E_call (vs := [sv x145 x148.length x147, sv x168 x171.length x170]) rfl rfl rfl rfl rfl rfl rfl (eqInt64S_ok x145 x148.length x147 x148 x168 x171.length x170 x171 _ ⟨(hS.sls 14 rfl), rfl, (by first | omega | decide)⟩ ⟨(hS.sls 21 rfl), rfl, (by first | omega | decide)⟩ ((h149).trans (h172).symm)) ?_
      rintro _ H ⟨rfl, hQ⟩
      have hS := hS.up hQ.keep
      refine ed no rfl rfl (dv_un rfl rfl) ?_
      refine E_nil ?_
      refine th_norm ?_
      refine AWp_cond (t := false) rfl nofun (fun _ => ?_)
      refine AWp_skip ?_
      refine th_norm ?_
      refine AWp_seq ?_
      refine AWp_seq ?_
      refine AWp_E rfl ?_
      refine ed (sv x150 x153.length x152) rfl rfl (dv_move rfl) ?_
      refine ed (sv aV_a aV_n aV_c) rfl rfl (dv_move rfl) ?_
      refine E_call (vs := [sv aV_a aV_n aV_c]) rfl rfl rfl rfl rfl rfl rfl (toVectorS_ok aV_a aV_n aV_c aV _ (haV.keep hS.keep)) ?_
      rintro _ H ⟨x173, x174, x175, x176, h177, rfl, rfl, hQ⟩
      have hlh177 := congrArg List.length h177
      have hS := hS.push hQ
      refine E_call (vs := [sv x150 x153.length x152, sv x173 x176.length x175]) rfl rfl rfl rfl rfl rfl rfl (eqVectorS_ok x150 x153.length x152 x153 x173 x176.length x175 x176 _ ⟨(hS.sls 15 rfl), rfl, (by first | omega | decide)⟩ ⟨(hS.sls 22 rfl), rfl, (by first | omega | decide)⟩ ((h154).trans (h177).symm)) ?_
      rintro _ H ⟨rfl, hQ⟩
      have hS := hS.up hQ.keep
      refine ed no rfl rfl (dv_un rfl rfl) ?_
      refine E_nil ?_
      refine th_norm ?_
      refine AWp_cond (t := false) rfl nofun (fun _ => ?_)
      refine AWp_skip ?_
      refine th_norm ?_
      refine AWp_seq ?_
      refine AWp_E rfl ?_
      refine ed (iv 1) rfl rfl (dv_assign rfl) ?_
      refine E_nil ?_
      refine th_norm ?_
      refine AWp_seq ?_
      refine AWp_E rfl ?_
      refine ed (bva b139) rfl rfl (dv_load rfl (ld_boxA (n := 9) (hS.box 13 rfl) rfl rfl (Nat.le_of_ble_eq_true rfl) rfl)) ?_
      refine ed (iv 1) rfl rfl (dv_move rfl) ?_
      obtain ⟨Hy, hKy, _, hN, hQ⟩ := hS.split [8, 9, 10, 11, 12] rfl
      have hY := hQ [] _ (SepL.refl Hy)
      refine E_call (vs := [bva b139, iv 1]) rfl rfl rfl rfl rfl rfl rfl (markBody_ok b139 1 _ _ ⟨h141.1, h141.2⟩ (by omega) h142 ⟨h143.1, h143.2⟩ (by omega) hN (by first | assumption | omega | rfl | (simp_all; done))) ?_
      rintro _ H ⟨y178, y179, y180, y181, v182, h183, h184, h185, h186, h187, h188, h189, h190, h191, h192, h193, h194, h195, h196, h197, h198, rfl, hP⟩
      have hlh183 := congrArg List.length h183
      have hlh184 := congrArg List.length h184
      have hlh196 := congrArg List.length h196
      have hlh197 := congrArg List.length h197
      have hS : SepL _ [box b1 [sv aB.m.pa aB.m.pn aB.m.pc, sv aB.m.ta aB.m.tn aB.m.tc, sv aB.sa aB.sn aB.sc, fl aB.film, fl aB.bend, sv aB.wa aB.wn aB.wc, fl aB.fall.x, fl aB.fall.y, fl aB.fall.z] 32, sl encV 41 3 b9.m.pa b9.m.pc b9.m.ps, sl encR 53 1 b9.m.ta b9.m.tc b9.m.ts, rowsE 2 b9.m.ts, sl encS 116 4 b9.sa b9.sc b9.ss, sl encF 27 1 b9.wa b9.wc b9.ws, sl encI 2 1 x14 x16 x17, sl encV 41 3 x19 x21 x22, box b144 [sv b139.m.pa b139.m.pn b139.m.pc, sv b139.m.ta b139.m.tn b139.m.tc, sv b139.sa b139.sn b139.sc, fl b139.film, fl b139.bend, sv b139.wa b139.wn b139.wc, fl b139.fall.x, fl b139.fall.y, fl b139.fall.z] 43, sl encI 2 1 x145 x147 x148, sl encV 41 3 x150 x152 x153, sl encV 41 3 b163.m.pa b163.m.pc b163.m.ps, sl encR 53 1 b163.m.ta b163.m.tc b163.m.ts, rowsE 2 b163.m.ts, sl encS 116 4 b163.sa b163.sc b163.ss, sl encF 27 1 b163.wa b163.wc b163.ws, sl encI 2 1 x168 x170 x171, sl encV 41 3 x173 x175 x176, sl encV 41 3 b139.m.pa b139.m.pc y178, sl encR 53 1 b139.m.ta b139.m.tc y179, rowsE 2 y179, sl encS 116 4 b139.sa b139.sc y180, sl encF 27 1 b139.wa b139.wc y181] H := hQ _ _ hP
      refine ed (iv v182) rfl rfl (dv_assign rfl) ?_
      refine E_nil ?_
      refine th_norm ?_
      refine AWp_seq ?_
      refine AWp_E rfl ?_
      refine ed (sv x145 x148.length x147) rfl rfl (dv_move rfl) ?_
      refine ed (iv v182) rfl rfl (dv_move rfl) ?_
      obtain ⟨Hy, hKy, _, hN, hQ⟩ := hS.split [9] rfl
      have hY := hQ [] _ (SepL.refl Hy)
      refine E_call (vs := [sv x145 x148.length x147, iv v182]) rfl rfl rfl rfl rfl rfl rfl (markInt64S_ok x145 x148.length x147 x148 v182 _ _ rfl (by omega) hN (by first | assumption | omega | rfl | (simp_all; done))) ?_
      rintro _ H ⟨y199, v200, h201, h202, h203, rfl, hP⟩
      simp only [h149] at h201
      simp only [h149] at h203
      have hlh201 := congrArg List.length h201
      have hS : SepL _ [box b1 [sv aB.m.pa aB.m.pn aB.m.pc, sv aB.m.ta aB.m.tn aB.m.tc, sv aB.sa aB.sn aB.sc, fl aB.film, fl aB.bend, sv aB.wa aB.wn aB.wc, fl aB.fall.x, fl aB.fall.y, fl aB.fall.z] 32, sl encV 41 3 b9.m.pa b9.m.pc b9.m.ps, sl encR 53 1 b9.m.ta b9.m.tc b9.m.ts, rowsE 2 b9.m.ts, sl encS 116 4 b9.sa b9.sc b9.ss, sl encF 27 1 b9.wa b9.wc b9.ws, sl encI 2 1 x14 x16 x17, sl encV 41 3 x19 x21 x22, box b144 [sv b139.m.pa b139.m.pn b139.m.pc, sv b139.m.ta b139.m.tn b139.m.tc, sv b139.sa b139.sn b139.sc, fl b139.film, fl b139.bend, sv b139.wa b139.wn b139.wc, fl b139.fall.x, fl b139.fall.y, fl b139.fall.z] 43, sl encV 41 3 x150 x152 x153, sl encV 41 3 b163.m.pa b163.m.pc b163.m.ps, sl encR 53 1 b163.m.ta b163.m.tc b163.m.ts, rowsE 2 b163.m.ts, sl encS 116 4 b163.sa b163.sc b163.ss, sl encF 27 1 b163.wa b163.wc b163.ws, sl encI 2 1 x168 x170 x171, sl encV 41 3 x173 x175 x176, sl encV 41 3 b139.m.pa b139.m.pc y178, sl encR 53 1 b139.m.ta b139.m.tc y179, rowsE 2 y179, sl encS 116 4 b139.sa b139.sc y180, sl encF 27 1 b139.wa b139.wc y181, sl encI 2 1 x145 x147 y199] H := hQ _ _ hP
      refine ed (iv v200) rfl rfl (dv_assign rfl) ?_
      refine E_nil ?_
      refine th_norm ?_
      refine AWp_seq ?_
      refine AWp_E rfl ?_
      refine ed (sv x150 x153.length x152) rfl rfl (dv_move rfl) ?_
      refine ed (iv v200) rfl rfl (dv_move rfl) ?_
      obtain ⟨Hy, hKy, _, hN, hQ⟩ := hS.split [9] rfl
      have hY := hQ [] _ (SepL.refl Hy)
      refine E_call (vs := [sv x150 x153.length x152, iv v200]) rfl rfl rfl rfl rfl rfl rfl (markVectorS_ok x150 x153.length x152 x153 v200 _ _ rfl (by omega) hN (by first | assumption | omega | rfl | (simp_all; done))) ?_
      rintro _ H ⟨y204, v205, h206, h207, h208, rfl, hP⟩
      simp only [h154] at h206
      simp only [h154] at h208
      have hlh206 := congrArg List.length h206
      have hS : SepL _ [box b1 [sv aB.m.pa aB.m.pn aB.m.pc, sv aB.m.ta aB.m.tn aB.m.tc, sv aB.sa aB.sn aB.sc, fl aB.film, fl aB.bend, sv aB.wa aB.wn aB.wc, fl aB.fall.x, fl aB.fall.y, fl aB.fall.z] 32, sl encV 41 3 b9.m.pa b9.m.pc b9.m.ps, sl encR 53 1 b9.m.ta b9.m.tc b9.m.ts, rowsE 2 b9.m.ts, sl encS 116 4 b9.sa b9.sc b9.ss, sl encF 27 1 b9.wa b9.wc b9.ws, sl encI 2 1 x14 x16 x17, sl encV 41 3 x19 x21 x22, box b144 [sv b139.m.pa b139.m.pn b139.m.pc, sv b139.m.ta b139.m.tn b139.m.tc, sv b139.sa b139.sn b139.sc, fl b139.film, fl b139.bend, sv b139.wa b139.wn b139.wc, fl b139.fall.x, fl b139.fall.y, fl b139.fall.z] 43, sl encV 41 3 b163.m.pa b163.m.pc b163.m.ps, sl encR 53 1 b163.m.ta b163.m.tc b163.m.ts, rowsE 2 b163.m.ts, sl encS 116 4 b163.sa b163.sc b163.ss, sl encF 27 1 b163.wa b163.wc b163.ws, sl encI 2 1 x168 x170 x171, sl encV 41 3 x173 x175 x176, sl encV 41 3 b139.m.pa b139.m.pc y178, sl encR 53 1 b139.m.ta b139.m.tc y179, rowsE 2 y179, sl encS 116 4 b139.sa b139.sc y180, sl encF 27 1 b139.wa b139.wc y181, sl encI 2 1 x145 x147 y199, sl encV 41 3 x150 x152 y204] H := hQ _ _ hP
      refine ed (iv v205) rfl rfl (dv_assign rfl) ?_
      refine E_nil ?_
      refine th_norm ?_
      refine AWp_seq ?_
      refine AWp_seq ?_
      refine AWp_E rfl ?_
      refine ed (iv v205) rfl rfl (dv_move rfl) ?_
      rcases Decidable.em ((v205 : Int) < 0) with hc209 | hc209
      ·
       refine ed yes rfl rfl (dv_bin rfl rfl (bi_lss_t hc209)) ?_
       refine ed yes rfl rfl (dv_move rfl) ?_
       refine E_skip rfl rfl ?_
       refine E_skip rfl rfl ?_
       refine E_skip rfl rfl ?_
       refine E_skip rfl rfl ?_
       refine ed yes rfl rfl (dv_pick (t := true) rfl rfl) ?_
       refine ed yes rfl rfl (dv_move rfl) ?_
       refine E_skip rfl rfl ?_
       refine E_skip rfl rfl ?_
       refine E_skip rfl rfl ?_
       refine ed yes rfl rfl (dv_pick (t := true) rfl rfl) ?_
       refine E_nil ?_
       refine th_norm ?_
       refine AWp_cond (t := true) rfl (fun _ => ?_) nofun
       refine AWp_seq ?_
       refine AWp_E rfl ?_
       refine ed no rfl rfl (dv_assign rfl) ?_
       refine E_nil ?_
       refine th_norm ?_
       refine AWp_ret (th_ret (?_))
       refine ret_of ?_
       refine readsRes_of (rs := [.tmp 8]) (vs := [no]) rfl (re_cons (re_tmp rfl) (re_nil)) rfl ?_
       exfalso; first | omega | (simp_all; done)
      ·
       refine ed no rfl rfl (dv_bin rfl rfl (bi_lss_f hc209)) ?_
       refine ed no rfl rfl (dv_move rfl) ?_
       refine ed (sv none 0 0) rfl rfl (dv_move rfl) ?_
       refine ed (sv none 0 0) rfl rfl (dv_move rfl) ?_
       refine E_call (vs := [sv none 0 0, sv none 0 0]) rfl rfl rfl rfl rfl rfl rfl (eqVectorS_ok none 0 0 [] none 0 0 [] _ ⟨.nil, rfl, by decide⟩ ⟨.nil, rfl, by decide⟩ (rfl)) ?_
       rintro _ H ⟨rfl, hQ⟩
       have hS := hS.up hQ.keep
       refine ed no rfl rfl (dv_un rfl rfl) ?_
       refine ed no rfl rfl (dv_pick (t := false) rfl rfl) ?_
       refine ed no rfl rfl (dv_move rfl) ?_
       refine ed no rfl rfl (dv_move rfl) ?_
       refine ed no rfl rfl (dv_move rfl) ?_
       refine ed no rfl rfl (dv_bin rfl rfl rfl) ?_
       refine ed no rfl rfl (dv_pick (t := false) rfl rfl) ?_
       refine E_nil ?_
       refine th_norm ?_
       refine AWp_cond (t := false) rfl nofun (fun _ => ?_)
       refine AWp_skip ?_
       refine th_norm ?_
       refine AWp_seq ?_
       refine AWp_E rfl ?_
       refine ed (iv 1) rfl rfl (dv_assign rfl) ?_
       refine E_nil ?_
       refine th_norm ?_
       refine AWp_seq ?_
       refine AWp_E rfl ?_
       refine ed (sv none 0 0) rfl rfl (dv_move rfl) ?_
       refine ed (iv 1) rfl rfl (dv_move rfl) ?_
       have hS := hS.nil encV 41 3
       obtain ⟨Hy, hKy, _, hN, hQ⟩ := hS.split [23] rfl
       have hY := hQ [] _ (SepL.refl Hy)
       refine E_call (vs := [sv none 0 0, iv 1]) rfl rfl rfl rfl rfl rfl rfl (markVectorS_ok none 0 0 ([] : List V3) 1 _ _ rfl (by omega) hN (by first | assumption | omega | rfl | (simp_all; done))) ?_
       rintro _ H ⟨y210, v211, h212, h213, h214, rfl, hP⟩
       have hlh212 := congrArg List.length h212
       have hS : SepL _ [box b1 [sv aB.m.pa aB.m.pn aB.m.pc, sv aB.m.ta aB.m.tn aB.m.tc, sv aB.sa aB.sn aB.sc, fl aB.film, fl aB.bend, sv aB.wa aB.wn aB.wc, fl aB.fall.x, fl aB.fall.y, fl aB.fall.z] 32, sl encV 41 3 b9.m.pa b9.m.pc b9.m.ps, sl encR 53 1 b9.m.ta b9.m.tc b9.m.ts, rowsE 2 b9.m.ts, sl encS 116 4 b9.sa b9.sc b9.ss, sl encF 27 1 b9.wa b9.wc b9.ws, sl encI 2 1 x14 x16 x17, sl encV 41 3 x19 x21 x22, box b144 [sv b139.m.pa b139.m.pn b139.m.pc, sv b139.m.ta b139.m.tn b139.m.tc, sv b139.sa b139.sn b139.sc, fl b139.film, fl b139.bend, sv b139.wa b139.wn b139.wc, fl b139.fall.x, fl b139.fall.y, fl b139.fall.z] 43, sl encV 41 3 b163.m.pa b163.m.pc b163.m.ps, sl encR 53 1 b163.m.ta b163.m.tc b163.m.ts, rowsE 2 b163.m.ts, sl encS 116 4 b163.sa b163.sc b163.ss, sl encF 27 1 b163.wa b163.wc b163.ws, sl encI 2 1 x168 x170 x171, sl encV 41 3 x173 x175 x176, sl encV 41 3 b139.m.pa b139.m.pc y178, sl encR 53 1 b139.m.ta b139.m.tc y179, rowsE 2 y179, sl encS 116 4 b139.sa b139.sc y180, sl encF 27 1 b139.wa b139.wc y181, sl encI 2 1 x145 x147 y199, sl encV 41 3 x150 x152 y204, sl encV 41 3 none 0 y210] H := hQ _ _ hP
       refine ed (iv v211) rfl rfl (dv_assign rfl) ?_
       refine E_nil ?_
       refine th_norm ?_
       refine AWp_seq ?_
       refine AWp_E rfl ?_
       refine ed (iv 1) rfl rfl (dv_assign rfl) ?_
       refine E_nil ?_
       refine th_norm ?_
       refine AWp_seq ?_
       refine AWp_E rfl ?_
       refine ed (sv none 0 0) rfl rfl (dv_move rfl) ?_
       refine ed (iv 1) rfl rfl (dv_move rfl) ?_
       refine E_call (vs := [sv none 0 0, iv 1]) rfl rfl rfl rfl rfl rfl rfl (heldVectorS_ok none 0 0 [] 1 _ ⟨.nil, rfl, by decide⟩ (by first | assumption | omega | rfl | (simp_all; done)) (by first | assumption | omega | rfl | (simp_all; done))) ?_
       rintro _ H ⟨v215, h216, rfl, hQ⟩
       have hS := hS.up hQ.keep
       refine ed (iv v215) rfl rfl (dv_assign rfl) ?_
       refine E_nil ?_
       refine th_norm ?_
       refine AWp_seq ?_
       refine AWp_seq ?_
       refine AWp_E rfl ?_
       refine ed (iv v215) rfl rfl (dv_move rfl) ?_
       rcases Decidable.em ((v215 : Int) < 0) with hc217 | hc217
       ·
        refine ed yes rfl rfl (dv_bin rfl rfl (bi_lss_t hc217)) ?_
        refine E_nil ?_
        refine th_norm ?_
        refine AWp_cond (t := true) rfl (fun _ => ?_) nofun
        refine AWp_seq ?_
        refine AWp_E rfl ?_
        refine ed no rfl rfl (dv_assign rfl) ?_
        refine E_nil ?_
        refine th_norm ?_
        refine AWp_ret (th_ret (?_))
        refine ret_of ?_
        refine readsRes_of (rs := [.tmp 8]) (vs := [no]) rfl (re_cons (re_tmp rfl) (re_nil)) rfl ?_
        exfalso; first | omega | (simp_all; done)
       ·
        refine ed no rfl rfl (dv_bin rfl rfl (bi_lss_f hc217)) ?_
        refine E_nil ?_
        refine th_norm ?_
        refine AWp_cond (t := false) rfl nofun (fun _ => ?_)
        refine AWp_skip ?_
        refine th_norm ?_
        refine AWp_seq ?_
        refine AWp_seq ?_
        refine AWp_E rfl ?_
        refine ed (iv v215) rfl rfl (dv_move rfl) ?_
        refine ed (iv v211) rfl rfl (dv_move rfl) ?_
        rcases Decidable.em ((v215 : Int) ≠ v211) with hc218 | hc218
        ·
         refine ed yes rfl rfl (dv_bin rfl rfl (bi_neq_t hc218)) ?_
         refine E_nil ?_
         refine th_norm ?_
         refine AWp_cond (t := true) rfl (fun _ => ?_) nofun
         refine AWp_seq ?_
         refine AWp_E rfl ?_
         refine ed no rfl rfl (dv_assign rfl) ?_
         refine E_nil ?_
         refine th_norm ?_
         refine AWp_ret (th_ret (?_))
         refine ret_of ?_
         refine readsRes_of (rs := [.tmp 8]) (vs := [no]) rfl (re_cons (re_tmp rfl) (re_nil)) rfl ?_
         exfalso; first | omega | (simp_all; done)
        ·
         refine ed no rfl rfl (dv_bin rfl rfl (bi_neq_f hc218)) ?_
         refine E_nil ?_
         refine th_norm ?_
         refine AWp_cond (t := false) rfl nofun (fun _ => ?_)
         refine AWp_skip ?_
         refine th_norm ?_
         refine AWp_seq ?_
         refine AWp_E rfl ?_
         refine ed (bva aB) rfl rfl (dv_load rfl (ld_boxA (n := 9) (hS.box 0 rfl) rfl rfl (Nat.le_of_ble_eq_true rfl) rfl)) ?_
         refine E_call (vs := [bva aB]) rfl rfl rfl rfl rfl rfl rfl (toBody_ok aB _ (haB.keep hS.keep)) ?_
         rintro _ H ⟨b219, h220, h221, h222, h223, rfl, hQ⟩
         have hdlh220 : b219.m.ps.length = aB.m.ps.length := congrArg (fun d : Bod => d.m.ps.length) h220
         have hdth220 : (rxs b219.m.ts).length = (rxs aB.m.ts).length := congrArg (fun d : Bod => d.m.ts.length) h220
         simp only [rxs, List.length_map] at hdth220
         have hdsh220 : b219.ss.length = aB.ss.length := congrArg (fun d : Bod => d.ss.length) h220
         have hdwh220 : b219.ws.length = aB.ws.length := congrArg (fun d : Bod => d.ws.length) h220
         have hS := hS.push hQ
         refine ed (sv aHeld_a aHeld_n aHeld_c) rfl rfl (dv_move rfl) ?_
         refine E_call (vs := [sv aHeld_a aHeld_n aHeld_c]) rfl rfl rfl rfl rfl rfl rfl (toInt64S_ok aHeld_a aHeld_n aHeld_c aHeld _ (haHeld.keep hS.keep)) ?_
         rintro _ H ⟨x224, x225, x226, x227, h228, rfl, rfl, hQ⟩
         have hlh228 := congrArg List.length h228
         have hS := hS.push hQ
         refine ed (sv aV_a aV_n aV_c) rfl rfl (dv_move rfl) ?_
         refine E_call (vs := [sv aV_a aV_n aV_c]) rfl rfl rfl rfl rfl rfl rfl (toVectorS_ok aV_a aV_n aV_c aV _ (haV.keep hS.keep)) ?_
         rintro _ H ⟨x229, x230, x231, x232, h233, rfl, rfl, hQ⟩
         have hlh233 := congrArg List.length h233
         have hS := hS.push hQ
         refine ed (fl aStep) rfl rfl (dv_move rfl) ?_
         refine E_call (vs := [bva b219, sv x224 x227.length x226, sv x229 x232.length x231, fl aStep]) rfl rfl rfl rfl rfl rfl rfl (impl_StiffTimes_ok b219 x224 x227.length x226 x227 x229 x232.length x231 x232 aStep _ ⟨⟨⟨(hS.sls 24 rfl), h221.1, (by first | omega | decide)⟩, ⟨rows_of (hS.sls 25 rfl) (hS.at (i := 26) rfl) h222, h221.2, (by omega)⟩⟩, ⟨(hS.sls 27 rfl), h223.1, (by first | omega | decide)⟩, ⟨(hS.sls 28 rfl), h223.2, (by first | omega | decide)⟩⟩ ⟨(hS.sls 29 rfl), rfl, (by first | omega | decide)⟩ ⟨(hS.sls 30 rfl), rfl, (by first | omega | decide)⟩) ?_
         rintro _ H (⟨x234, x235, x236, x237, h238, h239, h240, rfl, rfl, hQ⟩ | ⟨h241, rfl, hQ⟩)
         ·
          simp only [h220, h228, h233] at h238
          simp only [h233] at h239
          simp only [h220, h228, h233] at h240
          exact absurd h238 h162
         ·
          simp only [h220, h228, h233] at h241
          have hS := hS.up hQ.keep
          refine ed (.tuple #[sv none 0 0, no]) rfl rfl (dv_move rfl) ?_
          refine ed (sv none 0 0) rfl rfl (dv_extract rfl rfl) ?_
          refine ed no rfl rfl (dv_extract rfl rfl) ?_
          refine ed (sv none 0 0) rfl rfl (dv_assign rfl) ?_
          refine ed no rfl rfl (dv_assign rfl) ?_
          refine E_nil ?_
          refine th_norm ?_
          refine AWp_seq ?_
          refine AWp_seq ?_
          refine AWp_E rfl ?_
          refine ed (sv none 0 0) rfl rfl (dv_move rfl) ?_
          refine ed (sv none 0 0) rfl rfl (dv_move rfl) ?_
          refine E_call (vs := [sv none 0 0, sv none 0 0]) rfl rfl rfl rfl rfl rfl rfl (eqVectorS_ok none 0 0 [] none 0 0 [] _ ⟨.nil, rfl, by decide⟩ ⟨.nil, rfl, by decide⟩ (rfl)) ?_
          rintro _ H ⟨rfl, hQ⟩
          have hS := hS.up hQ.keep
          refine ed no rfl rfl (dv_un rfl rfl) ?_
          refine ed no rfl rfl (dv_move rfl) ?_
          refine ed no rfl rfl (dv_move rfl) ?_
          refine ed no rfl rfl (dv_move rfl) ?_
          refine ed no rfl rfl (dv_bin rfl rfl rfl) ?_
          refine ed no rfl rfl (dv_pick (t := false) rfl rfl) ?_
          refine E_nil ?_
          refine th_norm ?_
          refine AWp_cond (t := false) rfl nofun (fun _ => ?_)
          refine AWp_skip ?_
          refine th_norm ?_
          refine AWp_seq ?_
          refine AWp_E rfl ?_
          refine ed (iv 1) rfl rfl (dv_assign rfl) ?_
          refine E_nil ?_
          refine th_norm ?_
          refine AWp_seq ?_
          refine AWp_E rfl ?_
          refine ed (sv none 0 0) rfl rfl (dv_move rfl) ?_
          refine ed (iv 1) rfl rfl (dv_move rfl) ?_
          refine E_call (vs := [sv none 0 0, iv 1]) rfl rfl rfl rfl rfl rfl rfl (heldVectorS_ok none 0 0 [] 1 _ ⟨.nil, rfl, by decide⟩ (by first | assumption | omega | rfl | (simp_all; done)) (by first | assumption | omega | rfl | (simp_all; done))) ?_
          rintro _ H ⟨v242, h243, rfl, hQ⟩
          have hS := hS.up hQ.keep
          refine ed (iv v242) rfl rfl (dv_assign rfl) ?_
          refine E_nil ?_
          refine th_norm ?_
          refine AWp_seq ?_
          refine AWp_seq ?_
          refine AWp_E rfl ?_
          refine ed (iv v242) rfl rfl (dv_move rfl) ?_
          rcases Decidable.em ((v242 : Int) < 0) with hc244 | hc244
          ·
           refine ed yes rfl rfl (dv_bin rfl rfl (bi_lss_t hc244)) ?_
           refine E_nil ?_
           refine th_norm ?_
           refine AWp_cond (t := true) rfl (fun _ => ?_) nofun
           refine AWp_seq ?_
           refine AWp_E rfl ?_
           refine ed no rfl rfl (dv_assign rfl) ?_
           refine E_nil ?_
           refine th_norm ?_
           refine AWp_ret (th_ret (?_))
           refine ret_of ?_
           refine readsRes_of (rs := [.tmp 8]) (vs := [no]) rfl (re_cons (re_tmp rfl) (re_nil)) rfl ?_
           exfalso; first | omega | (simp_all; done)
          ·
           refine ed no rfl rfl (dv_bin rfl rfl (bi_lss_f hc244)) ?_
           refine E_nil ?_
           refine th_norm ?_
           refine AWp_cond (t := false) rfl nofun (fun _ => ?_)
           refine AWp_skip ?_
           refine th_norm ?_
           refine AWp_seq ?_
           refine AWp_seq ?_
           refine AWp_E rfl ?_
           refine ed (iv v242) rfl rfl (dv_move rfl) ?_
           refine ed (iv v211) rfl rfl (dv_move rfl) ?_
           rcases Decidable.em ((v242 : Int) ≠ v211) with hc245 | hc245
           ·
            refine ed yes rfl rfl (dv_bin rfl rfl (bi_neq_t hc245)) ?_
            refine E_nil ?_
            refine th_norm ?_
            refine AWp_cond (t := true) rfl (fun _ => ?_) nofun
            refine AWp_seq ?_
            refine AWp_E rfl ?_
            refine ed no rfl rfl (dv_assign rfl) ?_
            refine E_nil ?_
            refine th_norm ?_
            refine AWp_ret (th_ret (?_))
            refine ret_of ?_
            refine readsRes_of (rs := [.tmp 8]) (vs := [no]) rfl (re_cons (re_tmp rfl) (re_nil)) rfl ?_
            exfalso; first | omega | (simp_all; done)
           ·
            refine ed no rfl rfl (dv_bin rfl rfl (bi_neq_f hc245)) ?_
            refine E_nil ?_
            refine th_norm ?_
            refine AWp_cond (t := false) rfl nofun (fun _ => ?_)
            refine AWp_skip ?_
            refine th_norm ?_
            refine AWp_seq ?_
            refine AWp_E rfl ?_
            refine ed yes rfl rfl (dv_assign rfl) ?_
            refine E_nil ?_
            refine th_norm ?_
            refine AWp_ret (?_)
            refine ret_of ?_
            refine readsRes_of (rs := [.tmp 8]) (vs := [yes]) rfl (re_cons (re_tmp rfl) (re_nil)) rfl ?_
            refine ⟨rfl, .base hS.keep⟩
end Go.Ab

/- Walks through functions of the program: what each computes, told over that view of memory; each with the conditions that it tells. -/
import Derived.Test.YtpiidmgenkjiiaaGreatProg
import Derived.Test.YtpiidmgenkjiiaaGreatWg
import Derived.Test.YtpiidmgenkjiiaaGreatWa
set_option maxRecDepth 100000
set_option maxHeartbeats 4000000
namespace Go.Ab
open Go.Proofs
theorem FnExactEnergiesAlong_ok (aB : LB) (aV_a : Option Addr) (aV_n aV_c : Nat) (aV : List (V3)) (aStep : Nat) (aCount : Int) (H : AH) (haB : aB.ok H) (haV : VS H encV aV_a aV_n aV) : ACalls Tryz.prog 3 [bva aB, sv aV_a aV_n aV_c, fl aStep, iv aCount] H
  (fun r H' => r = yes ∧ SepL H [] H') := by
 refine ACalls_of Tryz.func3 rfl (Nat.le_of_ble_eq_true rfl) ?_
 obtain ⟨H0, hH0⟩ : ∃ H0, H0 = H := ⟨_, rfl⟩
 have hS : SepL H0 [] H := hH0 ▸ SepL.refl H
 subst hH0
 obtain ⟨⟨haB_1_ps, haB_1_pn, haB_1_pb⟩, haB_1_ts, haB_1_tn, haB_1_tb⟩ := id haB.1
 obtain ⟨⟨haB_ss, haB_sn, haB_sb⟩, haB_ws, haB_wn, haB_wb⟩ := haB.2
 obtain ⟨haV_s, haV_n, haV_b⟩ := id haV
 refine AWp_seq ?_
 refine AWp_E rfl ?_
 refine S_box (l := [sv aB.m.pa aB.m.pn aB.m.pc, sv aB.m.ta aB.m.tn aB.m.tc, sv aB.sa aB.sn aB.sc, fl aB.film, fl aB.bend, sv aB.wa aB.wn aB.wc, fl aB.fall.x, fl aB.fall.y, fl aB.fall.z]) hS rfl rfl rfl rfl rfl fun b1 H hS => ?_
 refine ed no rfl rfl (dv_assign rfl) ?_
 refine E_nil ?_
 refine th_norm ?_
 refine AWp_seq ?_
 refine AWp_E rfl ?_
 refine ed (iv 1048576) rfl rfl (dv_assign rfl) ?_
 refine E_nil ?_
 refine th_norm ?_
 refine AWp_seq ?_
 refine AWp_E rfl ?_
 refine ed (bva aB) rfl rfl (dv_load rfl (ld_boxA (n := 9) (hS.box 0 rfl) rfl rfl (Nat.le_of_ble_eq_true rfl) rfl)) ?_
 refine ed (iv 1048576) rfl rfl (dv_move rfl) ?_
 refine E_call (vs := [bva aB, iv 1048576]) rfl rfl rfl rfl rfl rfl rfl (szBody_ok aB 1048576 _ (haB.keep hS.keep) (by first | assumption | omega | rfl | (simp_all; done))) ?_
 rintro _ H ⟨k2, h3, rfl, hQ⟩
 have hS := hS.up hQ.keep
 refine ed (iv k2) rfl rfl (dv_assign rfl) ?_
 refine E_nil ?_
 refine th_norm ?_
 refine AWp_seq ?_
 refine AWp_seq ?_
 refine AWp_E rfl ?_
 refine ed (iv k2) rfl rfl (dv_move rfl) ?_
 rcases Decidable.em ((k2 : Int) < 0) with hc4 | hc4
 ·
  refine ed yes rfl rfl (dv_bin rfl rfl (bi_lss_t hc4)) ?_
  refine E_nil ?_
  refine th_norm ?_
  refine AWp_cond (t := true) rfl (fun _ => ?_) nofun
  refine AWp_seq ?_
  refine AWp_E rfl ?_
  refine ed yes rfl rfl (dv_assign rfl) ?_
  refine E_nil ?_
  refine th_norm ?_
  refine AWp_ret (th_ret (?_))
  refine ret_of ?_
  refine readsRes_of (rs := [.tmp 8]) (vs := [yes]) rfl (re_cons (re_tmp rfl) (re_nil)) rfl ?_
  refine ⟨rfl, .base hS.keep⟩
 ·
  refine ed no rfl rfl (dv_bin rfl rfl (bi_lss_f hc4)) ?_
  refine E_nil ?_
  refine th_norm ?_
  refine AWp_cond (t := false) rfl nofun (fun _ => ?_)
  refine AWp_skip ?_
  refine th_norm ?_
  refine AWp_seq ?_
  refine AWp_E rfl ?_
  refine ed (sv aV_a aV_n aV_c) rfl rfl (dv_move rfl) ?_
  refine ed (iv k2) rfl rfl (dv_move rfl) ?_
  refine E_call (vs := [sv aV_a aV_n aV_c, iv k2]) rfl rfl rfl rfl rfl rfl rfl (szVectorS_ok aV_a aV_n aV_c aV k2 _ (haV.keep hS.keep) (by first | assumption | omega | rfl | (simp_all; done))) ?_
  rintro _ H ⟨k5, h6, rfl, hQ⟩
  have hS := hS.up hQ.keep
  refine ed (iv k5) rfl rfl (dv_assign rfl) ?_
  refine E_nil ?_
  refine th_norm ?_
  refine AWp_seq ?_
  refine AWp_seq ?_
  refine AWp_E rfl ?_
  refine ed (iv k5) rfl rfl (dv_move rfl) ?_
  rcases Decidable.em ((k5 : Int) < 0) with hc7 | hc7
  ·
   refine ed yes rfl rfl (dv_bin rfl rfl (bi_lss_t hc7)) ?_
   refine E_nil ?_
   refine th_norm ?_
   refine AWp_cond (t := true) rfl (fun _ => ?_) nofun
   refine AWp_seq ?_
   refine AWp_E rfl ?_
   refine ed yes rfl rfl (dv_assign rfl) ?_
   refine E_nil ?_
   refine th_norm ?_
   refine AWp_ret (th_ret (?_))
   refine ret_of ?_
   refine readsRes_of (rs := [.tmp 8]) (vs := [yes]) rfl (re_cons (re_tmp rfl) (re_nil)) rfl ?_
   refine ⟨rfl, .base hS.keep⟩
  ·
   refine ed no rfl rfl (dv_bin rfl rfl (bi_lss_f hc7)) ?_
   refine E_nil ?_
   refine th_norm ?_
   refine AWp_cond (t := false) rfl nofun (fun _ => ?_)
   refine AWp_skip ?_
   refine th_norm ?_
   refine AWp_seq ?_
   refine AWp_E rfl ?_
   refine ed (bva aB) rfl rfl (dv_load rfl (ld_boxA (n := 9) (hS.box 0 rfl) rfl rfl (Nat.le_of_ble_eq_true rfl) rfl)) ?_
   refine E_call (vs := [bva aB]) rfl rfl rfl rfl rfl rfl rfl (toBody_ok aB _ (haB.keep hS.keep)) ?_
   rintro _ H ⟨b8, h9, h10, h11, h12, rfl, hQ⟩
   have hdlh9 : b8.m.ps.length = aB.m.ps.length := congrArg (fun d : Bod => d.m.ps.length) h9
   have hdth9 : (rxs b8.m.ts).length = (rxs aB.m.ts).length := congrArg (fun d : Bod => d.m.ts.length) h9
   simp only [rxs, List.length_map] at hdth9
   have hdsh9 : b8.ss.length = aB.ss.length := congrArg (fun d : Bod => d.ss.length) h9
   have hdwh9 : b8.ws.length = aB.ws.length := congrArg (fun d : Bod => d.ws.length) h9
   have hS := hS.push hQ
   refine ed (sv aV_a aV_n aV_c) rfl rfl (dv_move rfl) ?_
   refine E_call (vs := [sv aV_a aV_n aV_c]) rfl rfl rfl rfl rfl rfl rfl (toVectorS_ok aV_a aV_n aV_c aV _ (haV.keep hS.keep)) ?_
   rintro _ H ⟨x13, x14, x15, x16, h17, rfl, rfl, hQ⟩
   have hlh17 := congrArg List.length h17
   have hS := hS.push hQ
   refine ed (fl aStep) rfl rfl (dv_move rfl) ?_
   refine ed (iv aCount) rfl rfl (dv_move rfl) ?_
   refine E_call (vs := [bva b8, sv x13 x16.length x15, fl aStep, iv aCount]) rfl rfl rfl rfl rfl rfl rfl (spec_EnergiesAlong_ok b8 x13 x16.length x15 x16 aStep aCount _ ⟨⟨⟨(hS.sls 1 rfl), h10.1, (by first | omega | decide)⟩, ⟨rows_of (hS.sls 2 rfl) (hS.at (i := 3) rfl) h11, h10.2, (by omega)⟩⟩, ⟨(hS.sls 4 rfl), h12.1, (by first | omega | decide)⟩, ⟨(hS.sls 5 rfl), h12.2, (by first | omega | decide)⟩⟩ ⟨(hS.sls 6 rfl), rfl, (by first | omega | decide)⟩) ?_
   rintro _ H (⟨x18, x19, x20, x21, h22, h23, h24, rfl, rfl, hQ⟩ | ⟨h25, rfl, hQ⟩)
   ·
    simp only [h9, h17] at h22
    simp only [h9, h17] at h24
    have hlh24 := congrArg List.length h24
    have hS := hS.push hQ
    refine ed (.tuple #[sv x18 x21.length x20, yes]) rfl rfl (dv_move rfl) ?_
    refine ed (sv x18 x21.length x20) rfl rfl (dv_extract rfl rfl) ?_
    refine ed yes rfl rfl (dv_extract rfl rfl) ?_
    refine ed (sv x18 x21.length x20) rfl rfl (dv_assign rfl) ?_
    refine ed yes rfl rfl (dv_assign rfl) ?_
    refine E_nil ?_
    refine th_norm ?_
    refine AWp_seq ?_
    refine AWp_E rfl ?_
    refine ed (bva aB) rfl rfl (dv_load rfl (ld_boxA (n := 9) (hS.box 0 rfl) rfl rfl (Nat.le_of_ble_eq_true rfl) rfl)) ?_
    refine E_call (vs := [bva aB]) rfl rfl rfl rfl rfl rfl rfl (toBody_ok aB _ (haB.keep hS.keep)) ?_
    rintro _ H ⟨b26, h27, h28, h29, h30, rfl, hQ⟩
    have hdlh27 : b26.m.ps.length = aB.m.ps.length := congrArg (fun d : Bod => d.m.ps.length) h27
    have hdth27 : (rxs b26.m.ts).length = (rxs aB.m.ts).length := congrArg (fun d : Bod => d.m.ts.length) h27
    simp only [rxs, List.length_map] at hdth27
    have hdsh27 : b26.ss.length = aB.ss.length := congrArg (fun d : Bod => d.ss.length) h27
    have hdwh27 : b26.ws.length = aB.ws.length := congrArg (fun d : Bod => d.ws.length) h27
    have hS := hS.push hQ
    refine S_box (l := [sv none 0 0, sv none 0 0, sv none 0 0, fl 0, fl 0, sv none 0 0, fl 0, fl 0, fl 0]) hS rfl rfl rfl rfl rfl fun b31 H hS => ?_
    refine S_store (i := 13) (yv := bva b26) (l' := [sv b26.m.pa b26.m.pn b26.m.pc, sv b26.m.ta b26.m.tn b26.m.tc, sv b26.sa b26.sn b26.sc, fl b26.film, fl b26.bend, sv b26.wa b26.wn b26.wc, fl b26.fall.x, fl b26.fall.y, fl b26.fall.z]) hS rfl rfl rfl rfl rfl rfl rfl rfl rfl rfl rfl rfl fun H hS => ?_
    refine E_nil ?_
    refine th_norm ?_
    refine AWp_seq ?_
    refine AWp_E rfl ?_
    refine ed (sv aV_a aV_n aV_c) rfl rfl (dv_move rfl) ?_
    refine E_call (vs := [sv aV_a aV_n aV_c]) rfl rfl rfl rfl rfl rfl rfl (toVectorS_ok aV_a aV_n aV_c aV _ (haV.keep hS.keep)) ?_
    rintro _ H ⟨x32, x33, x34, x35, h36, rfl, rfl, hQ⟩
    have hlh36 := congrArg List.length h36
    have hS := hS.push hQ
    refine ed (sv x32 x35.length x34) rfl rfl (dv_assign rfl) ?_
    refine E_nil ?_
    refine th_norm ?_
    refine AWp_seq ?_
    refine AWp_E rfl ?_
    refine ed (bva b26) rfl rfl (dv_load rfl (ld_boxA (n := 9) (hS.box 13 rfl) rfl rfl (Nat.le_of_ble_eq_true rfl) rfl)) ?_
    refine ed (sv x32 x35.length x34) rfl rfl (dv_move rfl) ?_
    refine ed (fl aStep) rfl rfl (dv_move rfl) ?_
    refine ed (iv aCount) rfl rfl (dv_move rfl) ?_
    refine E_call (vs := [bva b26, sv x32 x35.length x34, fl aStep, iv aCount]) rfl rfl rfl rfl rfl rfl rfl (impl_EnergiesAlong_ok b26 x32 x35.length x34 x35 aStep aCount _ ⟨⟨⟨(hS.sls 8 rfl), h28.1, (by first | omega | decide)⟩, ⟨rows_of (hS.sls 9 rfl) (hS.at (i := 10) rfl) h29, h28.2, (by omega)⟩⟩, ⟨(hS.sls 11 rfl), h30.1, (by first | omega | decide)⟩, ⟨(hS.sls 12 rfl), h30.2, (by first | omega | decide)⟩⟩ ⟨(hS.sls 14 rfl), rfl, (by first | omega | decide)⟩) ?_
    rintro _ H (⟨x37, x38, x39, x40, h41, h42, h43, rfl, rfl, hQ⟩ | ⟨h44, rfl, hQ⟩)
    ·
     simp only [h27, h36] at h41
     simp only [h27, h36] at h43
     have hlh43 := congrArg List.length h43
     have hS := hS.push hQ
     refine ed (.tuple #[sv x37 x40.length x39, yes]) rfl rfl (dv_move rfl) ?_
     refine ed (sv x37 x40.length x39) rfl rfl (dv_extract rfl rfl) ?_
     refine ed yes rfl rfl (dv_extract rfl rfl) ?_
     refine ed (sv x37 x40.length x39) rfl rfl (dv_assign rfl) ?_
     refine ed yes rfl rfl (dv_assign rfl) ?_
     refine E_nil ?_
     refine th_norm ?_
     refine AWp_seq ?_
     refine AWp_seq ?_
     refine AWp_E rfl ?_
     refine ed (sv x37 x40.length x39) rfl rfl (dv_move rfl) ?_
     refine ed (sv x18 x21.length x20) rfl rfl (dv_move rfl) ?_
     refine E_call (vs := [sv x37 x40.length x39, sv x18 x21.length x20]) rfl rfl rfl rfl rfl rfl rfl (eqFloat32S_ok x37 x40.length x39 x40 x18 x21.length x20 x21 _ ⟨(hS.sls 15 rfl), rfl, (by first | omega | decide)⟩ ⟨(hS.sls 7 rfl), rfl, (by first | omega | decide)⟩ ((h43).trans (h24).symm)) ?_
     rintro _ H ⟨rfl, hQ⟩
     have hS := hS.up hQ.keep
     refine ed no rfl rfl (dv_un rfl rfl) ?_
     refine ed no rfl rfl (dv_move rfl) ?_
     refine ed yes rfl rfl (dv_move rfl) ?_
     refine ed yes rfl rfl (dv_move rfl) ?_
     refine ed no rfl rfl (dv_bin rfl rfl rfl) ?_
     refine ed no rfl rfl (dv_pick (t := false) rfl rfl) ?_
     refine E_nil ?_
     refine th_norm ?_
     refine AWp_cond (t := false) rfl nofun (fun _ => ?_)
     refine AWp_skip ?_
     refine th_norm ?_
     refine AWp_seq ?_
     refine AWp_seq ?_
     have hR := hS.pushes
     have hKb := hS.keep
     have hB := fun Hc (hc : Keep _ Hc) => hR [] Hc (.base hc)
     refine AWp_D0 rfl (by decide +kernel) fun hM => ?_
     refine wd (bva b26) rfl rfl (fun _ hc => dv_load rfl (ld_boxA (n := 9) ((hB _ hc).box 13 rfl) rfl rfl (Nat.le_of_ble_eq_true rfl) rfl)) ?_
     refine wd (bva aB) rfl rfl (fun _ hc => dv_load rfl (ld_boxA (n := 9) ((hB _ hc).box 0 rfl) rfl rfl (Nat.le_of_ble_eq_true rfl) rfl)) ?_
     refine W_call (vs := [bva aB]) rfl rfl rfl rfl rfl rfl rfl (toBody_ok aB _ (haB.keep (hKb.trans hM.keep))) ?_
     rintro _ H ⟨b45, h46, h47, h48, h49, rfl, hQ⟩
     have hdlh46 : b45.m.ps.length = aB.m.ps.length := congrArg (fun d : Bod => d.m.ps.length) h46
     have hdth46 : (rxs b45.m.ts).length = (rxs aB.m.ts).length := congrArg (fun d : Bod => d.m.ts.length) h46
     simp only [rxs, List.length_map] at hdth46
     have hdsh46 : b45.ss.length = aB.ss.length := congrArg (fun d : Bod => d.ss.length) h46
     have hdwh46 : b45.ws.length = aB.ws.length := congrArg (fun d : Bod => d.ws.length) h46
     have hM := hM.push hQ
     refine ⟨hM.keep, ?_⟩
     refine W_call (vs := [bva b26, bva b45]) rfl rfl rfl rfl rfl rfl rfl (eqBody_ok b26 b45 _ ⟨⟨⟨((hR _ _ hM).sls 8 rfl), h28.1, (by first | omega | decide)⟩, ⟨rows_of ((hR _ _ hM).sls 9 rfl) ((hR _ _ hM).at (i := 10) rfl) h29, h28.2, (by omega)⟩⟩, ⟨((hR _ _ hM).sls 11 rfl), h30.1, (by first | omega | decide)⟩, ⟨((hR _ _ hM).sls 12 rfl), h30.2, (by first | omega | decide)⟩⟩ ⟨⟨⟨((hR _ _ hM).sls 16 rfl), h47.1, (by first | omega | decide)⟩, ⟨rows_of ((hR _ _ hM).sls 17 rfl) ((hR _ _ hM).at (i := 18) rfl) h48, h47.2, (by omega)⟩⟩, ⟨((hR _ _ hM).sls 19 rfl), h49.1, (by first | omega | decide)⟩, ⟨((hR _ _ hM).sls 20 rfl), h49.2, (by first | omega | decide)⟩⟩ ((h27).trans (h46).symm)) ?_
     rintro _ H ⟨rfl, hQ⟩
     have hM := hM.up hQ.keep
     refine ⟨hM.keep, ?_⟩
     refine wd no rfl rfl (fun _ hc => dv_un rfl rfl) ?_
     have hS := hR _ _ hM
     refine W_nil ?_
     refine th_norm ?_
     refine AWp_cond (t := false) rfl nofun (fun _ => ?_)
     refine AWp_skip ?_
     refine th_norm ?_
     refine AWp_seq ?_
     refine AWp_seq ?_
     refine AWp_E rfl ?_
     refine ed (sv x32 x35.length x34) rfl rfl (dv_move rfl) ?_
     refine ed (sv aV_a aV_n aV_c) rfl rfl (dv_move rfl) ?_
     refine E_call (vs := [sv aV_a aV_n aV_c]) rfl rfl rfl rfl rfl rfl rfl (toVectorS_ok aV_a aV_n aV_c aV _ (haV.keep hS.keep)) ?_
     rintro _ H ⟨x50, x51, x52, x53, h54, rfl, rfl, hQ⟩
     have hlh54 := congrArg List.length h54
     have hS := hS.push hQ
     refine E_call (vs := [sv x32 x35.length x34, sv x50 x53.length x52]) rfl rfl rfl rfl rfl rfl rfl (eqVectorS_ok x32 x35.length x34 x35 x50 x53.length x52 x53 _ ⟨(hS.sls 14 rfl), rfl, (by first | omega | decide)⟩ ⟨(hS.sls 21 rfl), rfl, (by first | omega | decide)⟩ ((h36).trans (h54).symm)) ?_
     rintro _ H ⟨rfl, hQ⟩
     have hS := hS.up hQ.keep
     refine ed no rfl rfl (dv_un rfl rfl) ?_
     refine E_nil ?_
     refine th_norm ?_
     refine AWp_cond (t := false) rfl nofun (fun _ => ?_)
     refine AWp_skip ?_
     refine th_norm ?_
     refine AWp_seq ?_
     refine AWp_E rfl ?_
     refine ed (iv 1) rfl rfl (dv_assign rfl) ?_
     refine E_nil ?_
     refine th_norm ?_
     refine AWp_seq ?_
     refine AWp_E rfl ?_
     refine ed (bva b26) rfl rfl (dv_load rfl (ld_boxA (n := 9) (hS.box 13 rfl) rfl rfl (Nat.le_of_ble_eq_true rfl) rfl)) ?_
     refine ed (iv 1) rfl rfl (dv_move rfl) ?_
     obtain ⟨Hy, hKy, _, hN, hQ⟩ := hS.split [8, 9, 10, 11, 12] rfl
     have hY := hQ [] _ (SepL.refl Hy)
     refine E_call (vs := [bva b26, iv 1]) rfl rfl rfl rfl rfl rfl rfl (markBody_ok b26 1 _ _ ⟨h28.1, h28.2⟩ (by omega) h29 ⟨h30.1, h30.2⟩ (by omega) hN (by first | assumption | omega | rfl | (simp_all; done))) ?_
     rintro _ H ⟨y55, y56, y57, y58, v59, h60, h61, h62, h63, h64, h65, h66, h67, h68, h69, h70, h71, h72, h73, h74, h75, rfl, hP⟩
     have hlh60 := congrArg List.length h60
     have hlh61 := congrArg List.length h61
     have hlh73 := congrArg List.length h73
     have hlh74 := congrArg List.length h74
     have hS : SepL _ [box b1 [sv aB.m.pa aB.m.pn aB.m.pc, sv aB.m.ta aB.m.tn aB.m.tc, sv aB.sa aB.sn aB.sc, fl aB.film, fl aB.bend, sv aB.wa aB.wn aB.wc, fl aB.fall.x, fl aB.fall.y, fl aB.fall.z] 32, sl encV 41 3 b8.m.pa b8.m.pc b8.m.ps, sl encR 53 1 b8.m.ta b8.m.tc b8.m.ts, rowsE 2 b8.m.ts, sl encS 116 4 b8.sa b8.sc b8.ss, sl encF 27 1 b8.wa b8.wc b8.ws, sl encV 41 3 x13 x15 x16, sl encF 27 1 x18 x20 x21, box b31 [sv b26.m.pa b26.m.pn b26.m.pc, sv b26.m.ta b26.m.tn b26.m.tc, sv b26.sa b26.sn b26.sc, fl b26.film, fl b26.bend, sv b26.wa b26.wn b26.wc, fl b26.fall.x, fl b26.fall.y, fl b26.fall.z] 43, sl encV 41 3 x32 x34 x35, sl encF 27 1 x37 x39 x40, sl encV 41 3 b45.m.pa b45.m.pc b45.m.ps, sl encR 53 1 b45.m.ta b45.m.tc b45.m.ts, rowsE 2 b45.m.ts, sl encS 116 4 b45.sa b45.sc b45.ss, sl encF 27 1 b45.wa b45.wc b45.ws, sl encV 41 3 x50 x52 x53, sl encV 41 3 b26.m.pa b26.m.pc y55, sl encR 53 1 b26.m.ta b26.m.tc y56, rowsE 2 y56, sl encS 116 4 b26.sa b26.sc y57, sl encF 27 1 b26.wa b26.wc y58] H := hQ _ _ hP
     refine ed (iv v59) rfl rfl (dv_assign rfl) ?_
     refine E_nil ?_
     refine th_norm ?_
     refine AWp_seq ?_
     refine AWp_E rfl ?_
     refine ed (sv x32 x35.length x34) rfl rfl (dv_move rfl) ?_
     refine ed (iv v59) rfl rfl (dv_move rfl) ?_
     obtain ⟨Hy, hKy, _, hN, hQ⟩ := hS.split [9] rfl
     have hY := hQ [] _ (SepL.refl Hy)
     refine E_call (vs := [sv x32 x35.length x34, iv v59]) rfl rfl rfl rfl rfl rfl rfl (markVectorS_ok x32 x35.length x34 x35 v59 _ _ rfl (by omega) hN (by first | assumption | omega | rfl | (simp_all; done))) ?_
     rintro _ H ⟨y76, v77, h78, h79, h80, rfl, hP⟩
     simp only [h36] at h78
     simp only [h36] at h80
     have hlh78 := congrArg List.length h78
     have hS : SepL _ [box b1 [sv aB.m.pa aB.m.pn aB.m.pc, sv aB.m.ta aB.m.tn aB.m.tc, sv aB.sa aB.sn aB.sc, fl aB.film, fl aB.bend, sv aB.wa aB.wn aB.wc, fl aB.fall.x, fl aB.fall.y, fl aB.fall.z] 32, sl encV 41 3 b8.m.pa b8.m.pc b8.m.ps, sl encR 53 1 b8.m.ta b8.m.tc b8.m.ts, rowsE 2 b8.m.ts, sl encS 116 4 b8.sa b8.sc b8.ss, sl encF 27 1 b8.wa b8.wc b8.ws, sl encV 41 3 x13 x15 x16, sl encF 27 1 x18 x20 x21, box b31 [sv b26.m.pa b26.m.pn b26.m.pc, sv b26.m.ta b26.m.tn b26.m.tc, sv b26.sa b26.sn b26.sc, fl b26.film, fl b26.bend, sv b26.wa b26.wn b26.wc, fl b26.fall.x, fl b26.fall.y, fl b26.fall.z] 43, sl encF 27 1 x37 x39 x40, sl encV 41 3 b45.m.pa b45.m.pc b45.m.ps, sl encR 53 1 b45.m.ta b45.m.tc b45.m.ts, rowsE 2 b45.m.ts, sl encS 116 4 b45.sa b45.sc b45.ss, sl encF 27 1 b45.wa b45.wc b45.ws, sl encV 41 3 x50 x52 x53, sl encV 41 3 b26.m.pa b26.m.pc y55, sl encR 53 1 b26.m.ta b26.m.tc y56, rowsE 2 y56, sl encS 116 4 b26.sa b26.sc y57, sl encF 27 1 b26.wa b26.wc y58, sl encV 41 3 x32 x34 y76] H := hQ _ _ hP
     refine ed (iv v77) rfl rfl (dv_assign rfl) ?_
     refine E_nil ?_
     refine th_norm ?_
     refine AWp_seq ?_
     refine AWp_seq ?_
     refine AWp_E rfl ?_
     refine ed (iv v77) rfl rfl (dv_move rfl) ?_
     rcases Decidable.em ((v77 : Int) < 0) with hc81 | hc81
     ·
      refine ed yes rfl rfl (dv_bin rfl rfl (bi_lss_t hc81)) ?_
      refine ed yes rfl rfl (dv_move rfl) ?_
      refine E_skip rfl rfl ?_
      refine E_skip rfl rfl ?_
      refine E_skip rfl rfl ?_
      refine E_skip rfl rfl ?_
      refine ed yes rfl rfl (dv_pick (t := true) rfl rfl) ?_
      refine ed yes rfl rfl (dv_move rfl) ?_
      refine E_skip rfl rfl ?_
      refine E_skip rfl rfl ?_
      refine E_skip rfl rfl ?_
      refine ed yes rfl rfl (dv_pick (t := true) rfl rfl) ?_
      refine E_nil ?_
      refine th_norm ?_
      refine AWp_cond (t := true) rfl (fun _ => ?_) nofun
      refine AWp_seq ?_
      refine AWp_E rfl ?_
      refine ed no rfl rfl (dv_assign rfl) ?_
      refine E_nil ?_
      refine th_norm ?_
      refine AWp_ret (th_ret (?_))
      refine ret_of ?_
      refine readsRes_of (rs := [.tmp 8]) (vs := [no]) rfl (re_cons (re_tmp rfl) (re_nil)) rfl ?_
      exfalso; first | omega | (simp_all; done)
     ·
      refine ed no rfl rfl (dv_bin rfl rfl (bi_lss_f hc81)) ?_
      refine ed no rfl rfl (dv_move rfl) ?_
      refine ed (sv x37 x40.length x39) rfl rfl (dv_move rfl) ?_
      refine ed (sv x18 x21.length x20) rfl rfl (dv_move rfl) ?_
      refine E_call (vs := [sv x37 x40.length x39, sv x18 x21.length x20]) rfl rfl rfl rfl rfl rfl rfl (eqFloat32S_ok x37 x40.length x39 x40 x18 x21.length x20 x21 _ ⟨(hS.sls 9 rfl), rfl, (by first | omega | decide)⟩ ⟨(hS.sls 7 rfl), rfl, (by first | omega | decide)⟩ ((h43).trans (h24).symm)) ?_
      rintro _ H ⟨rfl, hQ⟩
      have hS := hS.up hQ.keep
      refine ed no rfl rfl (dv_un rfl rfl) ?_
      refine ed no rfl rfl (dv_pick (t := false) rfl rfl) ?_
      refine ed no rfl rfl (dv_move rfl) ?_
      refine ed yes rfl rfl (dv_move rfl) ?_
      refine ed yes rfl rfl (dv_move rfl) ?_
      refine ed no rfl rfl (dv_bin rfl rfl rfl) ?_
      refine ed no rfl rfl (dv_pick (t := false) rfl rfl) ?_
      refine E_nil ?_
      refine th_norm ?_
      refine AWp_cond (t := false) rfl nofun (fun _ => ?_)
      refine AWp_skip ?_
      refine th_norm ?_
      refine AWp_seq ?_
      refine AWp_E rfl ?_
      refine ed (iv 1) rfl rfl (dv_assign rfl) ?_
      refine E_nil ?_
      refine th_norm ?_
      refine AWp_seq ?_
      refine AWp_E rfl ?_
      refine ed (sv x37 x40.length x39) rfl rfl (dv_move rfl) ?_
      refine ed (iv 1) rfl rfl (dv_move rfl) ?_
      obtain ⟨Hy, hKy, _, hN, hQ⟩ := hS.split [9] rfl
      have hY := hQ [] _ (SepL.refl Hy)
      refine E_call (vs := [sv x37 x40.length x39, iv 1]) rfl rfl rfl rfl rfl rfl rfl (markFloat32S_ok x37 x40.length x39 x40 1 _ _ rfl (by omega) hN (by first | assumption | omega | rfl | (simp_all; done))) ?_
      rintro _ H ⟨y82, v83, h84, h85, h86, rfl, hP⟩
      simp only [h43] at h84
      simp only [h43] at h86
      have hlh84 := congrArg List.length h84
      have hS : SepL _ [box b1 [sv aB.m.pa aB.m.pn aB.m.pc, sv aB.m.ta aB.m.tn aB.m.tc, sv aB.sa aB.sn aB.sc, fl aB.film, fl aB.bend, sv aB.wa aB.wn aB.wc, fl aB.fall.x, fl aB.fall.y, fl aB.fall.z] 32, sl encV 41 3 b8.m.pa b8.m.pc b8.m.ps, sl encR 53 1 b8.m.ta b8.m.tc b8.m.ts, rowsE 2 b8.m.ts, sl encS 116 4 b8.sa b8.sc b8.ss, sl encF 27 1 b8.wa b8.wc b8.ws, sl encV 41 3 x13 x15 x16, sl encF 27 1 x18 x20 x21, box b31 [sv b26.m.pa b26.m.pn b26.m.pc, sv b26.m.ta b26.m.tn b26.m.tc, sv b26.sa b26.sn b26.sc, fl b26.film, fl b26.bend, sv b26.wa b26.wn b26.wc, fl b26.fall.x, fl b26.fall.y, fl b26.fall.z] 43, sl encV 41 3 b45.m.pa b45.m.pc b45.m.ps, sl encR 53 1 b45.m.ta b45.m.tc b45.m.ts, rowsE 2 b45.m.ts, sl encS 116 4 b45.sa b45.sc b45.ss, sl encF 27 1 b45.wa b45.wc b45.ws, sl encV 41 3 x50 x52 x53, sl encV 41 3 b26.m.pa b26.m.pc y55, sl encR 53 1 b26.m.ta b26.m.tc y56, rowsE 2 y56, sl encS 116 4 b26.sa b26.sc y57, sl encF 27 1 b26.wa b26.wc y58, sl encV 41 3 x32 x34 y76, sl encF 27 1 x37 x39 y82] H := hQ _ _ hP
      refine ed (iv v83) rfl rfl (dv_assign rfl) ?_
      refine E_nil ?_
      refine th_norm ?_
      refine AWp_seq ?_
      refine AWp_E rfl ?_
      refine ed (iv 1) rfl rfl (dv_assign rfl) ?_
      refine E_nil ?_
      refine th_norm ?_
      refine AWp_seq ?_
      refine AWp_E rfl ?_
      refine ed (sv x37 x40.length x39) rfl rfl (dv_move rfl) ?_
      refine ed (iv 1) rfl rfl (dv_move rfl) ?_
      refine E_call (vs := [sv x37 x40.length x39, iv 1]) rfl rfl rfl rfl rfl rfl rfl (heldFloat32S_ok x37 x40.length x39 y82 1 _ ⟨(hS.sls 21 rfl), h85, (by first | omega | decide)⟩ (by first | assumption | omega | rfl | (simp_all; done)) (by first | assumption | omega | rfl | (simp_all; done))) ?_
      rintro _ H ⟨v87, h88, rfl, hQ⟩
      simp only [h43] at h88
      have hS := hS.up hQ.keep
      refine ed (iv v87) rfl rfl (dv_assign rfl) ?_
      refine E_nil ?_
      refine th_norm ?_
      refine AWp_seq ?_
      refine AWp_seq ?_
      refine AWp_E rfl ?_
      refine ed (iv v87) rfl rfl (dv_move rfl) ?_
      rcases Decidable.em ((v87 : Int) < 0) with hc89 | hc89
      ·
       refine ed yes rfl rfl (dv_bin rfl rfl (bi_lss_t hc89)) ?_
       refine E_nil ?_
       refine th_norm ?_
       refine AWp_cond (t := true) rfl (fun _ => ?_) nofun
       refine AWp_seq ?_
       refine AWp_E rfl ?_
       refine ed no rfl rfl (dv_assign rfl) ?_
       refine E_nil ?_
       refine th_norm ?_
       refine AWp_ret (th_ret (?_))
       refine ret_of ?_
       refine readsRes_of (rs := [.tmp 8]) (vs := [no]) rfl (re_cons (re_tmp rfl) (re_nil)) rfl ?_
       exfalso; first | omega | (simp_all; done)
      ·
       refine ed no rfl rfl (dv_bin rfl rfl (bi_lss_f hc89)) ?_
       refine E_nil ?_
       refine th_norm ?_
       refine AWp_cond (t := false) rfl nofun (fun _ => ?_)
       refine AWp_skip ?_
       refine th_norm ?_
       refine AWp_seq ?_
       refine AWp_seq ?_
       refine AWp_E rfl ?_
       refine ed (iv v87) rfl rfl (dv_move rfl) ?_
       refine ed (iv v83) rfl rfl (dv_move rfl) ?_
       rcases Decidable.em ((v87 : Int) ≠ v83) with hc90 | hc90
       ·
        refine ed yes rfl rfl (dv_bin rfl rfl (bi_neq_t hc90)) ?_
        refine E_nil ?_
        refine th_norm ?_
        refine AWp_cond (t := true) rfl (fun _ => ?_) nofun
        refine AWp_seq ?_
        refine AWp_E rfl ?_
        refine ed no rfl rfl (dv_assign rfl) ?_
        refine E_nil ?_
        refine th_norm ?_
        refine AWp_ret (th_ret (?_))
        refine ret_of ?_
        refine readsRes_of (rs := [.tmp 8]) (vs := [no]) rfl (re_cons (re_tmp rfl) (re_nil)) rfl ?_
        exfalso; first | omega | (simp_all; done)
       ·
        refine ed no rfl rfl (dv_bin rfl rfl (bi_neq_f hc90)) ?_
        refine E_nil ?_
        refine th_norm ?_
        refine AWp_cond (t := false) rfl nofun (fun _ => ?_)
        refine AWp_skip ?_
        refine th_norm ?_
        refine AWp_seq ?_
        refine AWp_E rfl ?_
        refine ed (bva aB) rfl rfl (dv_load rfl (ld_boxA (n := 9) (hS.box 0 rfl) rfl rfl (Nat.le_of_ble_eq_true rfl) rfl)) ?_
        refine E_call (vs := [bva aB]) rfl rfl rfl rfl rfl rfl rfl (toBody_ok aB _ (haB.keep hS.keep)) ?_
        rintro _ H ⟨b91, h92, h93, h94, h95, rfl, hQ⟩
        have hdlh92 : b91.m.ps.length = aB.m.ps.length := congrArg (fun d : Bod => d.m.ps.length) h92
        have hdth92 : (rxs b91.m.ts).length = (rxs aB.m.ts).length := congrArg (fun d : Bod => d.m.ts.length) h92
        simp only [rxs, List.length_map] at hdth92
        have hdsh92 : b91.ss.length = aB.ss.length := congrArg (fun d : Bod => d.ss.length) h92
        have hdwh92 : b91.ws.length = aB.ws.length := congrArg (fun d : Bod => d.ws.length) h92
        have hS := hS.push hQ
        refine ed (sv aV_a aV_n aV_c) rfl rfl (dv_move rfl) ?_
        refine E_call (vs := [sv aV_a aV_n aV_c]) rfl rfl rfl rfl rfl rfl rfl (toVectorS_ok aV_a aV_n aV_c aV _ (haV.keep hS.keep)) ?_
        rintro _ H ⟨x96, x97, x98, x99, h100, rfl, rfl, hQ⟩
        have hlh100 := congrArg List.length h100
        have hS := hS.push hQ
        refine ed (fl aStep) rfl rfl (dv_move rfl) ?_
        refine ed (iv aCount) rfl rfl (dv_move rfl) ?_
        refine E_call (vs := [bva b91, sv x96 x99.length x98, fl aStep, iv aCount]) rfl rfl rfl rfl rfl rfl rfl (impl_EnergiesAlong_ok b91 x96 x99.length x98 x99 aStep aCount _ ⟨⟨⟨(hS.sls 22 rfl), h93.1, (by first | omega | decide)⟩, ⟨rows_of (hS.sls 23 rfl) (hS.at (i := 24) rfl) h94, h93.2, (by omega)⟩⟩, ⟨(hS.sls 25 rfl), h95.1, (by first | omega | decide)⟩, ⟨(hS.sls 26 rfl), h95.2, (by first | omega | decide)⟩⟩ ⟨(hS.sls 27 rfl), rfl, (by first | omega | decide)⟩) ?_
        rintro _ H (⟨x101, x102, x103, x104, h105, h106, h107, rfl, rfl, hQ⟩ | ⟨h108, rfl, hQ⟩)
        ·
         simp only [h92, h100] at h105
         simp only [h92, h100] at h107
         have hlh107 := congrArg List.length h107
         have hS := hS.push hQ
         refine ed (.tuple #[sv x101 x104.length x103, yes]) rfl rfl (dv_move rfl) ?_
         refine ed (sv x101 x104.length x103) rfl rfl (dv_extract rfl rfl) ?_
         refine ed yes rfl rfl (dv_extract rfl rfl) ?_
         refine ed (sv x101 x104.length x103) rfl rfl (dv_assign rfl) ?_
         refine ed yes rfl rfl (dv_assign rfl) ?_
         refine E_nil ?_
         refine th_norm ?_
         refine AWp_seq ?_
         refine AWp_seq ?_
         refine AWp_E rfl ?_
         refine ed (sv x101 x104.length x103) rfl rfl (dv_move rfl) ?_
         refine ed (sv x18 x21.length x20) rfl rfl (dv_move rfl) ?_
         refine E_call (vs := [sv x101 x104.length x103, sv x18 x21.length x20]) rfl rfl rfl rfl rfl rfl rfl (eqFloat32S_ok x101 x104.length x103 x104 x18 x21.length x20 x21 _ ⟨(hS.sls 28 rfl), rfl, (by first | omega | decide)⟩ ⟨(hS.sls 7 rfl), rfl, (by first | omega | decide)⟩ ((h107).trans (h24).symm)) ?_
         rintro _ H ⟨rfl, hQ⟩
         have hS := hS.up hQ.keep
         refine ed no rfl rfl (dv_un rfl rfl) ?_
         refine ed no rfl rfl (dv_move rfl) ?_
         refine ed yes rfl rfl (dv_move rfl) ?_
         refine ed yes rfl rfl (dv_move rfl) ?_
         refine ed no rfl rfl (dv_bin rfl rfl rfl) ?_
         refine ed no rfl rfl (dv_pick (t := false) rfl rfl) ?_
         refine E_nil ?_
         refine th_norm ?_
         refine AWp_cond (t := false) rfl nofun (fun _ => ?_)
         refine AWp_skip ?_
         refine th_norm ?_
         refine AWp_seq ?_
         refine AWp_E rfl ?_
         refine ed (iv 1) rfl rfl (dv_assign rfl) ?_
         refine E_nil ?_
         refine th_norm ?_
         refine AWp_seq ?_
         refine AWp_E rfl ?_
         refine ed (sv x37 x40.length x39) rfl rfl (dv_move rfl) ?_
         refine ed (iv 1) rfl rfl (dv_move rfl) ?_
         refine E_call (vs := [sv x37 x40.length x39, iv 1]) rfl rfl rfl rfl rfl rfl rfl (heldFloat32S_ok x37 x40.length x39 y82 1 _ ⟨(hS.sls 21 rfl), h85, (by first | omega | decide)⟩ (by first | assumption | omega | rfl | (simp_all; done)) (by first | assumption | omega | rfl | (simp_all; done))) ?_
         rintro _ H ⟨v109, h110, rfl, hQ⟩
         simp only [h43] at h110
         have hS := hS.up hQ.keep
         refine ed (iv v109) rfl rfl (dv_assign rfl) ?_
         refine E_nil ?_
         refine th_norm ?_
         refine AWp_seq ?_
         refine AWp_seq ?_
         refine AWp_E rfl ?_
         refine ed (iv v109) rfl rfl (dv_move rfl) ?_
         rcases Decidable.em ((v109 : Int) < 0) with hc111 | hc111
         ·
          refine ed yes rfl rfl (dv_bin rfl rfl (bi_lss_t hc111)) ?_
          refine E_nil ?_
          refine th_norm ?_
          refine AWp_cond (t := true) rfl (fun _ => ?_) nofun
          refine AWp_seq ?_
          refine AWp_E rfl ?_
          refine ed no rfl rfl (dv_assign rfl) ?_
          refine E_nil ?_
          refine th_norm ?_
          refine AWp_ret (th_ret (?_))
          refine ret_of ?_
          refine readsRes_of (rs := [.tmp 8]) (vs := [no]) rfl (re_cons (re_tmp rfl) (re_nil)) rfl ?_
          exfalso; first | omega | (simp_all; done)
         ·
          refine ed no rfl rfl (dv_bin rfl rfl (bi_lss_f hc111)) ?_
          refine E_nil ?_
          refine th_norm ?_
          refine AWp_cond (t := false) rfl nofun (fun _ => ?_)
          refine AWp_skip ?_
          refine th_norm ?_
          refine AWp_seq ?_
          refine AWp_seq ?_
          refine AWp_E rfl ?_
          refine ed (iv v109) rfl rfl (dv_move rfl) ?_
          refine ed (iv v83) rfl rfl (dv_move rfl) ?_
          rcases Decidable.em ((v109 : Int) ≠ v83) with hc112 | hc112
          ·
           refine ed yes rfl rfl (dv_bin rfl rfl (bi_neq_t hc112)) ?_
           refine E_nil ?_
           refine th_norm ?_
           refine AWp_cond (t := true) rfl (fun _ => ?_) nofun
           refine AWp_seq ?_
           refine AWp_E rfl ?_
           refine ed no rfl rfl (dv_assign rfl) ?_
           refine E_nil ?_
           refine th_norm ?_
           refine AWp_ret (th_ret (?_))
           refine ret_of ?_
           refine readsRes_of (rs := [.tmp 8]) (vs := [no]) rfl (re_cons (re_tmp rfl) (re_nil)) rfl ?_
           exfalso; first | omega | (simp_all; done)
          ·
           refine ed no rfl rfl (dv_bin rfl rfl (bi_neq_f hc112)) ?_
           refine E_nil ?_
           refine th_norm ?_
           refine AWp_cond (t := false) rfl nofun (fun _ => ?_)
           refine AWp_skip ?_
           refine th_norm ?_
           refine AWp_seq ?_
           refine AWp_E rfl ?_
           refine ed yes rfl rfl (dv_assign rfl) ?_
           refine E_nil ?_
           refine th_norm ?_
           refine AWp_ret (?_)
           refine ret_of ?_
           refine readsRes_of (rs := [.tmp 8]) (vs := [yes]) rfl (re_cons (re_tmp rfl) (re_nil)) rfl ?_
           refine ⟨rfl, .base hS.keep⟩
        ·
         simp only [h92, h100] at h108
         exact absurd h41 h108
    ·
     simp only [h27, h36] at h44
     exact absurd h22 h44
   ·
    simp only [h9, h17] at h25
    have hS := hS.up hQ.keep
    refine ed (.tuple #[sv none 0 0, no]) rfl rfl (dv_move rfl) ?_
    refine ed (sv none 0 0) rfl rfl (dv_extract rfl rfl) ?_
    refine ed no rfl rfl (dv_extract rfl rfl) ?_
    refine ed (sv none 0 0) rfl rfl (dv_assign rfl) ?_
    refine ed no rfl rfl (dv_assign rfl) ?_
    refine E_nil ?_
    refine th_norm ?_
    refine AWp_seq ?_
    refine AWp_E rfl ?_
    refine ed (bva aB) rfl rfl (dv_load rfl (ld_boxA (n := 9) (hS.box 0 rfl) rfl rfl (Nat.le_of_ble_eq_true rfl) rfl)) ?_
    refine E_call (vs := [bva aB]) rfl rfl rfl rfl rfl rfl rfl (toBody_ok aB _ (haB.keep hS.keep)) ?_
    rintro _ H ⟨b113, h114, h115, h116, h117, rfl, hQ⟩
    have hdlh114 : b113.m.ps.length = aB.m.ps.length := congrArg (fun d : Bod => d.m.ps.length) h114
    have hdth114 : (rxs b113.m.ts).length = (rxs aB.m.ts).length := congrArg (fun d : Bod => d.m.ts.length) h114
    simp only [rxs, List.length_map] at hdth114
    have hdsh114 : b113.ss.length = aB.ss.length := congrArg (fun d : Bod => d.ss.length) h114
    have hdwh114 : b113.ws.length = aB.ws.length := congrArg (fun d : Bod => d.ws.length) h114
    have hS := hS.push hQ
    refine S_box (l := [sv none 0 0, sv none 0 0, sv none 0 0, fl 0, fl 0, sv none 0 0, fl 0, fl 0, fl 0]) hS rfl rfl rfl rfl rfl fun b118 H hS => ?_
    refine S_store (i := 12) (yv := bva b113) (l' := [sv b113.m.pa b113.m.pn b113.m.pc, sv b113.m.ta b113.m.tn b113.m.tc, sv b113.sa b113.sn b113.sc, fl b113.film, fl b113.bend, sv b113.wa b113.wn b113.wc, fl b113.fall.x, fl b113.fall.y, fl b113.fall.z]) hS rfl rfl rfl rfl rfl rfl rfl rfl rfl rfl rfl rfl fun H hS => ?_
    refine E_nil ?_
    refine th_norm ?_
    refine AWp_seq ?_
    refine AWp_E rfl ?_
    refine ed (sv aV_a aV_n aV_c) rfl rfl (dv_move rfl) ?_
    refine E_call (vs := [sv aV_a aV_n aV_c]) rfl rfl rfl rfl rfl rfl rfl (toVectorS_ok aV_a aV_n aV_c aV _ (haV.keep hS.keep)) ?_
    rintro _ H ⟨x119, x120, x121, x122, h123, rfl, rfl, hQ⟩
    have hlh123 := congrArg List.length h123
    have hS := hS.push hQ
    refine ed (sv x119 x122.length x121) rfl rfl (dv_assign rfl) ?_
    refine E_nil ?_
    refine th_norm ?_
    refine AWp_seq ?_
    refine AWp_E rfl ?_
    refine ed (bva b113) rfl rfl (dv_load rfl (ld_boxA (n := 9) (hS.box 12 rfl) rfl rfl (Nat.le_of_ble_eq_true rfl) rfl)) ?_
    refine ed (sv x119 x122.length x121) rfl rfl (dv_move rfl) ?_
    refine ed (fl aStep) rfl rfl (dv_move rfl) ?_
    refine ed (iv aCount) rfl rfl (dv_move rfl) ?_
    refine E_call (vs := [bva b113, sv x119 x122.length x121, fl aStep, iv aCount]) rfl rfl rfl rfl rfl rfl rfl (impl_EnergiesAlong_ok b113 x119 x122.length x121 x122 aStep aCount _ ⟨⟨⟨(hS.sls 7 rfl), h115.1, (by first | omega | decide)⟩, ⟨rows_of (hS.sls 8 rfl) (hS.at (i := 9) rfl) h116, h115.2, (by omega)⟩⟩, ⟨(hS.sls 10 rfl), h117.1, (by first | omega | decide)⟩, ⟨(hS.sls 11 rfl), h117.2, (by first | omega | decide)⟩⟩ ⟨(hS.sls 13 rfl), rfl, (by first | omega | decide)⟩) ?_
    rintro _ H (⟨x124, x125, x126, x127, h128, h129, h130, rfl, rfl, hQ⟩ | ⟨h131, rfl, hQ⟩)
    ·
     simp only [h114, h123] at h128
     simp only [h114, h123] at h130
     exact absurd h128 h25
    ·
     simp only [h114, h123] at h131
     have hS := hS.up hQ.keep
     refine ed (.tuple #[sv none 0 0, no]) rfl rfl (dv_move rfl) ?_
     refine ed (sv none 0 0) rfl rfl (dv_extract rfl rfl) ?_
     refine ed no rfl rfl (dv_extract rfl rfl) ?_
     refine ed (sv none 0 0) rfl rfl (dv_assign rfl) ?_
     refine ed no rfl rfl (dv_assign rfl) ?_
     refine E_nil ?_
     refine th_norm ?_
     refine AWp_seq ?_
     refine AWp_seq ?_
     refine AWp_E rfl ?_
     refine ed (sv none 0 0) rfl rfl (dv_move rfl) ?_
     refine ed (sv none 0 0) rfl rfl (dv_move rfl) ?_
     refine E_call (vs := [sv none 0 0, sv none 0 0]) rfl rfl rfl rfl rfl rfl rfl (eqFloat32S_ok none 0 0 [] none 0 0 [] _ ⟨.nil, rfl, by decide⟩ ⟨.nil, rfl, by decide⟩ (rfl)) ?_
     rintro _ H ⟨rfl, hQ⟩
     have hS := hS.up hQ.keep
     refine ed no rfl rfl (dv_un rfl rfl) ?_
     refine ed no rfl rfl (dv_move rfl) ?_
     refine ed no rfl rfl (dv_move rfl) ?_
     refine ed no rfl rfl (dv_move rfl) ?_
     refine ed no rfl rfl (dv_bin rfl rfl rfl) ?_
     refine ed no rfl rfl (dv_pick (t := false) rfl rfl) ?_
     refine E_nil ?_
     refine th_norm ?_
     refine AWp_cond (t := false) rfl nofun (fun _ => ?_)
     refine AWp_skip ?_
     refine th_norm ?_
     refine AWp_seq ?_
     refine AWp_seq ?_
     have hR := hS.pushes
     have hKb := hS.keep
     have hB := fun Hc (hc : Keep _ Hc) => hR [] Hc (.base hc)
     refine AWp_D0 rfl (by decide +kernel) fun hM => ?_
     refine wd (bva b113) rfl rfl (fun _ hc => dv_load rfl (ld_boxA (n := 9) ((hB _ hc).box 12 rfl) rfl rfl (Nat.le_of_ble_eq_true rfl) rfl)) ?_
     refine wd (bva aB) rfl rfl (fun _ hc => dv_load rfl (ld_boxA (n := 9) ((hB _ hc).box 0 rfl) rfl rfl (Nat.le_of_ble_eq_true rfl) rfl)) ?_
     refine W_call (vs := [bva aB]) rfl rfl rfl rfl rfl rfl rfl (toBody_ok aB _ (haB.keep (hKb.trans hM.keep))) ?_
     rintro _ H ⟨b132, h133, h134, h135, h136, rfl, hQ⟩
     have hdlh133 : b132.m.ps.length = aB.m.ps.length := congrArg (fun d : Bod => d.m.ps.length) h133
     have hdth133 : (rxs b132.m.ts).length = (rxs aB.m.ts).length := congrArg (fun d : Bod => d.m.ts.length) h133
     simp only [rxs, List.length_map] at hdth133
     have hdsh133 : b132.ss.length = aB.ss.length := congrArg (fun d : Bod => d.ss.length) h133
     have hdwh133 : b132.ws.length = aB.ws.length := congrArg (fun d : Bod => d.ws.length) h133
     have hM := hM.push hQ
     refine ⟨hM.keep, ?_⟩
     refine W_call (vs := [bva b113, bva b132]) rfl rfl rfl rfl rfl rfl rfl (eqBody_ok b113 b132 _ ⟨⟨⟨((hR _ _ hM).sls 7 rfl), h115.1, (by first | omega | decide)⟩, ⟨rows_of ((hR _ _ hM).sls 8 rfl) ((hR _ _ hM).at (i := 9) rfl) h116, h115.2, (by omega)⟩⟩, ⟨((hR _ _ hM).sls 10 rfl), h117.1, (by first | omega | decide)⟩, ⟨((hR _ _ hM).sls 11 rfl), h117.2, (by first | omega | decide)⟩⟩ ⟨⟨⟨((hR _ _ hM).sls 14 rfl), h134.1, (by first | omega | decide)⟩, ⟨rows_of ((hR _ _ hM).sls 15 rfl) ((hR _ _ hM).at (i := 16) rfl) h135, h134.2, (by omega)⟩⟩, ⟨((hR _ _ hM).sls 17 rfl), h136.1, (by first | omega | decide)⟩, ⟨((hR _ _ hM).sls 18 rfl), h136.2, (by first | omega | decide)⟩⟩ ((h114).trans (h133).symm)) ?_
     rintro _ H ⟨rfl, hQ⟩
     have hM := hM.up hQ.keep
     refine ⟨hM.keep, ?_⟩
     refine wd no rfl rfl (fun _ hc => dv_un rfl rfl) ?_
     have hS := hR _ _ hM
     refine W_nil ?_
     refine th_norm ?_
     refine AWp_cond (t := false) rfl nofun (fun _ => ?_)
     refine AWp_skip ?_
     refine th_norm ?_
     refine AWp_seq ?_
     refine AWp_seq ?_
     refine AWp_E rfl ?_
     refine ed (sv x119 x122.length x121) rfl rfl (dv_move rfl) ?_
     refine ed (sv aV_a aV_n aV_c) rfl rfl (dv_move rfl) ?_
     refine E_call (vs := [sv aV_a aV_n aV_c]) rfl rfl rfl rfl rfl rfl rfl (toVectorS_ok aV_a aV_n aV_c aV _ (haV.keep hS.keep)) ?_
     rintro _ H ⟨x137, x138, x139, x140, h141, rfl, rfl, hQ⟩
     have hlh141 := congrArg List.length h141
     have hS := hS.push hQ
     refine E_call (vs := [sv x119 x122.length x121, sv x137 x140.length x139]) rfl rfl rfl rfl rfl rfl rfl (eqVectorS_ok x119 x122.length x121 x122 x137 x140.length x139 x140 _ ⟨(hS.sls 13 rfl), rfl, (by first | omega | decide)⟩ ⟨(hS.sls 19 rfl), rfl, (by first | omega | decide)⟩ ((h123).trans (h141).symm)) ?_
     rintro _ H ⟨rfl, hQ⟩
     have hS := hS.up hQ.keep
     refine ed no rfl rfl (dv_un rfl rfl) ?_
     refine E_nil ?_
     refine th_norm ?_
     refine AWp_cond (t := false) rfl nofun (fun _ => ?_)
     refine AWp_skip ?_
     refine th_norm ?_
     refine AWp_seq ?_
     refine AWp_E rfl ?_
     refine ed (iv 1) rfl rfl (dv_assign rfl) ?_
     refine E_nil ?_
     refine th_norm ?_
     refine AWp_seq ?_
     refine AWp_E rfl ?_
     refine ed (bva b113) rfl rfl (dv_load rfl (ld_boxA (n := 9) (hS.box 12 rfl) rfl rfl (Nat.le_of_ble_eq_true rfl) rfl)) ?_
     refine ed (iv 1) rfl rfl (dv_move rfl) ?_
     obtain ⟨Hy, hKy, _, hN, hQ⟩ := hS.split [7, 8, 9, 10, 11] rfl
     have hY := hQ [] _ (SepL.refl Hy)
     refine E_call (vs := [bva b113, iv 1]) rfl rfl rfl rfl rfl rfl rfl (markBody_ok b113 1 _ _ ⟨h115.1, h115.2⟩ (by omega) h116 ⟨h117.1, h117.2⟩ (by omega) hN (by first | assumption | omega | rfl | (simp_all; done))) ?_
     rintro _ H ⟨y142, y143, y144, y145, v146, h147, h148, h149, h150, h151, h152, h153, h154, h155, h156, h157, h158, h159, h160, h161, h162, rfl, hP⟩
     have hlh147 := congrArg List.length h147
     have hlh148 := congrArg List.length h148
     have hlh160 := congrArg List.length h160
     have hlh161 := congrArg List.length h161
     have hS : SepL _ [box b1 [sv aB.m.pa aB.m.pn aB.m.pc, sv aB.m.ta aB.m.tn aB.m.tc, sv aB.sa aB.sn aB.sc, fl aB.film, fl aB.bend, sv aB.wa aB.wn aB.wc, fl aB.fall.x, fl aB.fall.y, fl aB.fall.z] 32, sl encV 41 3 b8.m.pa b8.m.pc b8.m.ps, sl encR 53 1 b8.m.ta b8.m.tc b8.m.ts, rowsE 2 b8.m.ts, sl encS 116 4 b8.sa b8.sc b8.ss, sl encF 27 1 b8.wa b8.wc b8.ws, sl encV 41 3 x13 x15 x16, box b118 [sv b113.m.pa b113.m.pn b113.m.pc, sv b113.m.ta b113.m.tn b113.m.tc, sv b113.sa b113.sn b113.sc, fl b113.film, fl b113.bend, sv b113.wa b113.wn b113.wc, fl b113.fall.x, fl b113.fall.y, fl b113.fall.z] 43, sl encV 41 3 x119 x121 x122, sl encV 41 3 b132.m.pa b132.m.pc b132.m.ps, sl encR 53 1 b132.m.ta b132.m.tc b132.m.ts, rowsE 2 b132.m.ts, sl encS 116 4 b132.sa b132.sc b132.ss, sl encF 27 1 b132.wa b132.wc b132.ws, sl encV 41 3 x137 x139 x140, sl encV 41 3 b113.m.pa b113.m.pc y142, sl encR 53 1 b113.m.ta b113.m.tc y143, rowsE 2 y143, sl encS 116 4 b113.sa b113.sc y144, sl encF 27 1 b113.wa b113.wc y145] H := hQ _ _ hP
     refine ed (iv v146) rfl rfl (dv_assign rfl) ?_
     refine E_nil ?_
     refine th_norm ?_
     refine AWp_seq ?_
     refine AWp_E rfl ?_
     refine ed (sv x119 x122.length x121) rfl rfl (dv_move rfl) ?_
     refine ed (iv v146) rfl rfl (dv_move rfl) ?_
     obtain ⟨Hy, hKy, _, hN, hQ⟩ := hS.split [8] rfl
     have hY := hQ [] _ (SepL.refl Hy)
     refine E_call (vs := [sv x119 x122.length x121, iv v146]) rfl rfl rfl rfl rfl rfl rfl (markVectorS_ok x119 x122.length x121 x122 v146 _ _ rfl (by omega) hN (by first | assumption | omega | rfl | (simp_all; done))) ?_
     rintro _ H ⟨y163, v164, h165, h166, h167, rfl, hP⟩
     simp only [h123] at h165
     simp only [h123] at h167
     have hlh165 := congrArg List.length h165
     have hS : SepL _ [box b1 [sv aB.m.pa aB.m.pn aB.m.pc, sv aB.m.ta aB.m.tn aB.m.tc, sv aB.sa aB.sn aB.sc, fl aB.film, fl aB.bend, sv aB.wa aB.wn aB.wc, fl aB.fall.x, fl aB.fall.y, fl aB.fall.z] 32, sl encV 41 3 b8.m.pa b8.m.pc b8.m.ps, sl encR 53 1 b8.m.ta b8.m.tc b8.m.ts, rowsE 2 b8.m.ts, sl encS 116 4 b8.sa b8.sc b8.ss, sl encF 27 1 b8.wa b8.wc b8.ws, sl encV 41 3 x13 x15 x16, box b118 [sv b113.m.pa b113.m.pn b113.m.pc, sv b113.m.ta b113.m.tn b113.m.tc, sv b113.sa b113.sn b113.sc, fl b113.film, fl b113.bend, sv b113.wa b113.wn b113.wc, fl b113.fall.x, fl b113.fall.y, fl b113.fall.z] 43, sl encV 41 3 b132.m.pa b132.m.pc b132.m.ps, sl encR 53 1 b132.m.ta b132.m.tc b132.m.ts, rowsE 2 b132.m.ts, sl encS 116 4 b132.sa b132.sc b132.ss, sl encF 27 1 b132.wa b132.wc b132.ws, sl encV 41 3 x137 x139 x140, sl encV 41 3 b113.m.pa b113.m.pc y142, sl encR 53 1 b113.m.ta b113.m.tc y143, rowsE 2 y143, sl encS 116 4 b113.sa b113.sc y144, sl encF 27 1 b113.wa b113.wc y145, sl encV 41 3 x119 x121 y163] H := hQ _ _ hP
     refine ed (iv v164) rfl rfl (dv_assign rfl) ?_
     refine E_nil ?_
     refine th_norm ?_
     refine AWp_seq ?_
     refine AWp_seq ?_
     refine AWp_E rfl ?_
     refine ed (iv v164) rfl rfl (dv_move rfl) ?_
     rcases Decidable.em ((v164 : Int) < 0) with hc168 | hc168
     ·
      refine ed yes rfl rfl (dv_bin rfl rfl (bi_lss_t hc168)) ?_
      refine ed yes rfl rfl (dv_move rfl) ?_
      refine E_skip rfl rfl ?_
      refine E_skip rfl rfl ?_
      refine E_skip rfl rfl ?_
      refine E_skip rfl rfl ?_
      refine ed yes rfl rfl (dv_pick (t := true) rfl rfl) ?_
      refine ed yes rfl rfl (dv_move rfl) ?_
      refine E_skip rfl rfl ?_
      refine E_skip rfl rfl ?_
      refine E_skip rfl rfl ?_
      refine ed yes rfl rfl (dv_pick (t := true) rfl rfl) ?_
      refine E_nil ?_
      refine th_norm ?_
      refine AWp_cond (t := true) rfl (fun _ => ?_) nofun
      refine AWp_seq ?_
      refine AWp_E rfl ?_
      refine ed no rfl rfl (dv_assign rfl) ?_
      refine E_nil ?_
      refine th_norm ?_
      refine AWp_ret (th_ret (?_))
      refine ret_of ?_
      refine readsRes_of (rs := [.tmp 8]) (vs := [no]) rfl (re_cons (re_tmp rfl) (re_nil)) rfl ?_
      exfalso; first | omega | (simp_all; done)
     ·
      refine ed no rfl rfl (dv_bin rfl rfl (bi_lss_f hc168)) ?_
      refine ed no rfl rfl (dv_move rfl) ?_
      refine ed (sv none 0 0) rfl rfl (dv_move rfl) ?_
      refine ed (sv none 0 0) rfl rfl (dv_move rfl) ?_
      refine E_call (vs := [sv none 0 0, sv none 0 0]) rfl rfl rfl rfl rfl rfl rfl (eqFloat32S_ok none 0 0 [] none 0 0 [] _ ⟨.nil, rfl, by decide⟩ ⟨.nil, rfl, by decide⟩ (rfl)) ?_
      rintro _ H ⟨rfl, hQ⟩
      have hS := hS.up hQ.keep
      refine ed no rfl rfl (dv_un rfl rfl) ?_
      refine ed no rfl rfl (dv_pick (t := false) rfl rfl) ?_
      refine ed no rfl rfl (dv_move rfl) ?_
      refine ed no rfl rfl (dv_move rfl) ?_
      refine ed no rfl rfl (dv_move rfl) ?_
      refine ed no rfl rfl (dv_bin rfl rfl rfl) ?_
      refine ed no rfl rfl (dv_pick (t := false) rfl rfl) ?_
      refine E_nil ?_
      refine th_norm ?_
      refine AWp_cond (t := false) rfl nofun (fun _ => ?_)
      refine AWp_skip ?_
      refine th_norm ?_
      refine AWp_seq ?_
      refine AWp_E rfl ?_
      refine ed (iv 1) rfl rfl (dv_assign rfl) ?_
      refine E_nil ?_
      refine th_norm ?_
      refine AWp_seq ?_
      refine AWp_E rfl ?_
      refine ed (sv none 0 0) rfl rfl (dv_move rfl) ?_
      refine ed (iv 1) rfl rfl (dv_move rfl) ?_
      have hS := hS.nil encF 27 1
      obtain ⟨Hy, hKy, _, hN, hQ⟩ := hS.split [20] rfl
      have hY := hQ [] _ (SepL.refl Hy)
      refine E_call (vs := [sv none 0 0, iv 1]) rfl rfl rfl rfl rfl rfl rfl (markFloat32S_ok none 0 0 ([] : List Nat) 1 _ _ rfl (by omega) hN (by first | assumption | omega | rfl | (simp_all; done))) ?_
      rintro _ H ⟨y169, v170, h171, h172, h173, rfl, hP⟩
      have hlh171 := congrArg List.length h171
      have hS : SepL _ [box b1 [sv aB.m.pa aB.m.pn aB.m.pc, sv aB.m.ta aB.m.tn aB.m.tc, sv aB.sa aB.sn aB.sc, fl aB.film, fl aB.bend, sv aB.wa aB.wn aB.wc, fl aB.fall.x, fl aB.fall.y, fl aB.fall.z] 32, sl encV 41 3 b8.m.pa b8.m.pc b8.m.ps, sl encR 53 1 b8.m.ta b8.m.tc b8.m.ts, rowsE 2 b8.m.ts, sl encS 116 4 b8.sa b8.sc b8.ss, sl encF 27 1 b8.wa b8.wc b8.ws, sl encV 41 3 x13 x15 x16, box b118 [sv b113.m.pa b113.m.pn b113.m.pc, sv b113.m.ta b113.m.tn b113.m.tc, sv b113.sa b113.sn b113.sc, fl b113.film, fl b113.bend, sv b113.wa b113.wn b113.wc, fl b113.fall.x, fl b113.fall.y, fl b113.fall.z] 43, sl encV 41 3 b132.m.pa b132.m.pc b132.m.ps, sl encR 53 1 b132.m.ta b132.m.tc b132.m.ts, rowsE 2 b132.m.ts, sl encS 116 4 b132.sa b132.sc b132.ss, sl encF 27 1 b132.wa b132.wc b132.ws, sl encV 41 3 x137 x139 x140, sl encV 41 3 b113.m.pa b113.m.pc y142, sl encR 53 1 b113.m.ta b113.m.tc y143, rowsE 2 y143, sl encS 116 4 b113.sa b113.sc y144, sl encF 27 1 b113.wa b113.wc y145, sl encV 41 3 x119 x121 y163, sl encF 27 1 none 0 y169] H := hQ _ _ hP
      refine ed (iv v170) rfl rfl (dv_assign rfl) ?_
      refine E_nil ?_
      refine th_norm ?_
      refine AWp_seq ?_
      refine AWp_E rfl ?_
      refine ed (iv 1) rfl rfl (dv_assign rfl) ?_
      refine E_nil ?_
      refine th_norm ?_
      refine AWp_seq ?_
      refine AWp_E rfl ?_
      refine ed (sv none 0 0) rfl rfl (dv_move rfl) ?_
      refine ed (iv 1) rfl rfl (dv_move rfl) ?_
      refine E_call (vs := [sv none 0 0, iv 1]) rfl rfl rfl rfl rfl rfl rfl (heldFloat32S_ok none 0 0 [] 1 _ ⟨.nil, rfl, by decide⟩ (by first | assumption | omega | rfl | (simp_all; done)) (by first | assumption | omega | rfl | (simp_all; done))) ?_
      rintro _ H ⟨v174, h175, rfl, hQ⟩
      have hS := hS.up hQ.keep
      refine ed (iv v174) rfl rfl (dv_assign rfl) ?_
      refine E_nil ?_
      refine th_norm ?_
      refine AWp_seq ?_
      refine AWp_seq ?_
      refine AWp_E rfl ?_
      refine ed (iv v174) rfl rfl (dv_move rfl) ?_
      rcases Decidable.em ((v174 : Int) < 0) with hc176 | hc176
      ·
       refine ed yes rfl rfl (dv_bin rfl rfl (bi_lss_t hc176)) ?_
       refine E_nil ?_
       refine th_norm ?_
       refine AWp_cond (t := true) rfl (fun _ => ?_) nofun
       refine AWp_seq ?_
       refine AWp_E rfl ?_
       refine ed no rfl rfl (dv_assign rfl) ?_
       refine E_nil ?_
       refine th_norm ?_
       refine AWp_ret (th_ret (?_))
       refine ret_of ?_
       refine readsRes_of (rs := [.tmp 8]) (vs := [no]) rfl (re_cons (re_tmp rfl) (re_nil)) rfl ?_
       exfalso; first | omega | (simp_all; done)
      ·
       refine ed no rfl rfl (dv_bin rfl rfl (bi_lss_f hc176)) ?_
       refine E_nil ?_
       refine th_norm ?_
       refine AWp_cond (t := false) rfl nofun (fun _ => ?_)
       refine AWp_skip ?_
       refine th_norm ?_
       refine AWp_seq ?_
       refine AWp_seq ?_
       refine AWp_E rfl ?_
       refine ed (iv v174) rfl rfl (dv_move rfl) ?_
       refine ed (iv v170) rfl rfl (dv_move rfl) ?_
       rcases Decidable.em ((v174 : Int) ≠ v170) with hc177 | hc177
       ·
        refine ed yes rfl rfl (dv_bin rfl rfl (bi_neq_t hc177)) ?_
        refine E_nil ?_
        refine th_norm ?_
        refine AWp_cond (t := true) rfl (fun _ => ?_) nofun
        refine AWp_seq ?_
        refine AWp_E rfl ?_
        refine ed no rfl rfl (dv_assign rfl) ?_
        refine E_nil ?_
        refine th_norm ?_
        refine AWp_ret (th_ret (?_))
        refine ret_of ?_
        refine readsRes_of (rs := [.tmp 8]) (vs := [no]) rfl (re_cons (re_tmp rfl) (re_nil)) rfl ?_
        exfalso; first | omega | (simp_all; done)
       ·
        refine ed no rfl rfl (dv_bin rfl rfl (bi_neq_f hc177)) ?_
        refine E_nil ?_
        refine th_norm ?_
        refine AWp_cond (t := false) rfl nofun (fun _ => ?_)
        refine AWp_skip ?_
        refine th_norm ?_
        refine AWp_seq ?_
        refine AWp_E rfl ?_
        refine ed (bva aB) rfl rfl (dv_load rfl (ld_boxA (n := 9) (hS.box 0 rfl) rfl rfl (Nat.le_of_ble_eq_true rfl) rfl)) ?_
        refine E_call (vs := [bva aB]) rfl rfl rfl rfl rfl rfl rfl (toBody_ok aB _ (haB.keep hS.keep)) ?_
        rintro _ H ⟨b178, h179, h180, h181, h182, rfl, hQ⟩
        have hdlh179 : b178.m.ps.length = aB.m.ps.length := congrArg (fun d : Bod => d.m.ps.length) h179
        have hdth179 : (rxs b178.m.ts).length = (rxs aB.m.ts).length := congrArg (fun d : Bod => d.m.ts.length) h179
        simp only [rxs, List.length_map] at hdth179
        have hdsh179 : b178.ss.length = aB.ss.length := congrArg (fun d : Bod => d.ss.length) h179
        have hdwh179 : b178.ws.length = aB.ws.length := congrArg (fun d : Bod => d.ws.length) h179
        have hS := hS.push hQ
        refine ed (sv aV_a aV_n aV_c) rfl rfl (dv_move rfl) ?_
        refine E_call (vs := [sv aV_a aV_n aV_c]) rfl rfl rfl rfl rfl rfl rfl (toVectorS_ok aV_a aV_n aV_c aV _ (haV.keep hS.keep)) ?_
        rintro _ H ⟨x183, x184, x185, x186, h187, rfl, rfl, hQ⟩
        have hlh187 := congrArg List.length h187
        have hS := hS.push hQ
        refine ed (fl aStep) rfl rfl (dv_move rfl) ?_
        refine ed (iv aCount) rfl rfl (dv_move rfl) ?_
        refine E_call (vs := [bva b178, sv x183 x186.length x185, fl aStep, iv aCount]) rfl rfl rfl rfl rfl rfl rfl (impl_EnergiesAlong_ok b178 x183 x186.length x185 x186 aStep aCount _ ⟨⟨⟨(hS.sls 21 rfl), h180.1, (by first | omega | decide)⟩, ⟨rows_of (hS.sls 22 rfl) (hS.at (i := 23) rfl) h181, h180.2, (by omega)⟩⟩, ⟨(hS.sls 24 rfl), h182.1, (by first | omega | decide)⟩, ⟨(hS.sls 25 rfl), h182.2, (by first | omega | decide)⟩⟩ ⟨(hS.sls 26 rfl), rfl, (by first | omega | decide)⟩) ?_
        rintro _ H (⟨x188, x189, x190, x191, h192, h193, h194, rfl, rfl, hQ⟩ | ⟨h195, rfl, hQ⟩)
        ·
         simp only [h179, h187] at h192
         simp only [h179, h187] at h194
         exact absurd h192 h131
        ·
         simp only [h179, h187] at h195
         have hS := hS.up hQ.keep
         refine ed (.tuple #[sv none 0 0, no]) rfl rfl (dv_move rfl) ?_
         refine ed (sv none 0 0) rfl rfl (dv_extract rfl rfl) ?_
         refine ed no rfl rfl (dv_extract rfl rfl) ?_
         refine ed (sv none 0 0) rfl rfl (dv_assign rfl) ?_
         refine ed no rfl rfl (dv_assign rfl) ?_
         refine E_nil ?_
         refine th_norm ?_
         refine AWp_seq ?_
         refine AWp_seq ?_
         refine AWp_E rfl ?_
         refine ed (sv none 0 0) rfl rfl (dv_move rfl) ?_
         refine ed (sv none 0 0) rfl rfl (dv_move rfl) ?_
         refine E_call (vs := [sv none 0 0, sv none 0 0]) rfl rfl rfl rfl rfl rfl rfl (eqFloat32S_ok none 0 0 [] none 0 0 [] _ ⟨.nil, rfl, by decide⟩ ⟨.nil, rfl, by decide⟩ (rfl)) ?_
         rintro _ H ⟨rfl, hQ⟩
         have hS := hS.up hQ.keep
         refine ed no rfl rfl (dv_un rfl rfl) ?_
         refine ed no rfl rfl (dv_move rfl) ?_
         refine ed no rfl rfl (dv_move rfl) ?_
         refine ed no rfl rfl (dv_move rfl) ?_
         refine ed no rfl rfl (dv_bin rfl rfl rfl) ?_
         refine ed no rfl rfl (dv_pick (t := false) rfl rfl) ?_
         refine E_nil ?_
         refine th_norm ?_
         refine AWp_cond (t := false) rfl nofun (fun _ => ?_)
         refine AWp_skip ?_
         refine th_norm ?_
         refine AWp_seq ?_
         refine AWp_E rfl ?_
         refine ed (iv 1) rfl rfl (dv_assign rfl) ?_
         refine E_nil ?_
         refine th_norm ?_
         refine AWp_seq ?_
         refine AWp_E rfl ?_
         refine ed (sv none 0 0) rfl rfl (dv_move rfl) ?_
         refine ed (iv 1) rfl rfl (dv_move rfl) ?_
         refine E_call (vs := [sv none 0 0, iv 1]) rfl rfl rfl rfl rfl rfl rfl (heldFloat32S_ok none 0 0 [] 1 _ ⟨.nil, rfl, by decide⟩ (by first | assumption | omega | rfl | (simp_all; done)) (by first | assumption | omega | rfl | (simp_all; done))) ?_
         rintro _ H ⟨v196, h197, rfl, hQ⟩
         have hS := hS.up hQ.keep
         refine ed (iv v196) rfl rfl (dv_assign rfl) ?_
         refine E_nil ?_
         refine th_norm ?_
         refine AWp_seq ?_
         refine AWp_seq ?_
         refine AWp_E rfl ?_
         refine ed (iv v196) rfl rfl (dv_move rfl) ?_
         rcases Decidable.em ((v196 : Int) < 0) with hc198 | hc198
         ·
          refine ed yes rfl rfl (dv_bin rfl rfl (bi_lss_t hc198)) ?_
          refine E_nil ?_
          refine th_norm ?_
          refine AWp_cond (t := true) rfl (fun _ => ?_) nofun
          refine AWp_seq ?_
          refine AWp_E rfl ?_
          refine ed no rfl rfl (dv_assign rfl) ?_
          refine E_nil ?_
          refine th_norm ?_
          refine AWp_ret (th_ret (?_))
          refine ret_of ?_
          refine readsRes_of (rs := [.tmp 8]) (vs := [no]) rfl (re_cons (re_tmp rfl) (re_nil)) rfl ?_
          exfalso; first | omega | (simp_all; done)
         ·
          refine ed no rfl rfl (dv_bin rfl rfl (bi_lss_f hc198)) ?_
          refine E_nil ?_
          refine th_norm ?_
          refine AWp_cond (t := false) rfl nofun (fun _ => ?_)
          refine AWp_skip ?_
          refine th_norm ?_
          refine AWp_seq ?_
          refine AWp_seq ?_
          refine AWp_E rfl ?_
          refine ed (iv v196) rfl rfl (dv_move rfl) ?_
          refine ed (iv v170) rfl rfl (dv_move rfl) ?_
          rcases Decidable.em ((v196 : Int) ≠ v170) with hc199 | hc199
          ·
           refine ed yes rfl rfl (dv_bin rfl rfl (bi_neq_t hc199)) ?_
           refine E_nil ?_
           refine th_norm ?_
           refine AWp_cond (t := true) rfl (fun _ => ?_) nofun
           refine AWp_seq ?_
           refine AWp_E rfl ?_
           refine ed no rfl rfl (dv_assign rfl) ?_
           refine E_nil ?_
           refine th_norm ?_
           refine AWp_ret (th_ret (?_))
           refine ret_of ?_
           refine readsRes_of (rs := [.tmp 8]) (vs := [no]) rfl (re_cons (re_tmp rfl) (re_nil)) rfl ?_
           exfalso; first | omega | (simp_all; done)
          ·
           refine ed no rfl rfl (dv_bin rfl rfl (bi_neq_f hc199)) ?_
           refine E_nil ?_
           refine th_norm ?_
           refine AWp_cond (t := false) rfl nofun (fun _ => ?_)
           refine AWp_skip ?_
           refine th_norm ?_
           refine AWp_seq ?_
           refine AWp_E rfl ?_
           refine ed yes rfl rfl (dv_assign rfl) ?_
           refine E_nil ?_
           refine th_norm ?_
           refine AWp_ret (?_)
           refine ret_of ?_
           refine readsRes_of (rs := [.tmp 8]) (vs := [yes]) rfl (re_cons (re_tmp rfl) (re_nil)) rfl ?_
           refine ⟨rfl, .base hS.keep⟩
end Go.Ab

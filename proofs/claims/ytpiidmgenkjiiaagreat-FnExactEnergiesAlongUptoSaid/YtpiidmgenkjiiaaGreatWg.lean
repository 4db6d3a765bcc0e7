/- Walks through functions of the program: what each computes, told over that view of memory; each with the conditions that it tells. -/
import Derived.Test.YtpiidmgenkjiiaaGreatProg
import Derived.Test.YtpiidmgenkjiiaaGreatWf
import Derived.Test.YtpiidmgenkjiiaaGreatVb
set_option maxRecDepth 100000
set_option maxHeartbeats 4000000
namespace Go.Ab
open Go.Proofs
theorem spec_EnergiesAlong_ok (b : LB) (v_a : Option Addr) (v_n v_c : Nat) (v : List (V3)) (step : Nat) (count : Int) (H : AH) (hb : b.ok H) (hv : VS H encV v_a v_n v) : ACalls Tryz.prog 13 [bva b, sv v_a v_n v_c, fl step, iv count] H
  (fun r H' => (∃ (x0_a : Option Addr), ∃ (x0_n : Nat), ∃ (x0_c : Nat), ∃ (x0_ : List (Nat)), (canP b.d [] v.length step ∧ 0 ≤ count ∧ count ≤ 40) ∧ x0_.length ≤ 81 ∧ x0_ = runK (lineD b.d v step) count (count + 1) ∧ x0_.length = x0_n ∧ r = .tuple #[sv x0_a x0_n x0_c, yes] ∧ SepL H [sl encF 27 1 x0_a x0_c x0_] H') ∨ ((¬(canP b.d [] v.length step ∧ 0 ≤ count ∧ count ≤ 40)) ∧ r = .tuple #[sv none 0 0, no] ∧ SepL H [] H')) := by
 refine ACalls_of Tryz.func13 rfl (Nat.le_of_ble_eq_true rfl) ?_
 obtain ⟨H0, hH0⟩ : ∃ H0, H0 = H := ⟨_, rfl⟩
 have hS : SepL H0 [] H := hH0 ▸ SepL.refl H
 subst hH0
 obtain ⟨⟨hb_1_ps, hb_1_pn, hb_1_pb⟩, hb_1_ts, hb_1_tn, hb_1_tb⟩ := id hb.1
 obtain ⟨⟨hb_ss, hb_sn, hb_sb⟩, hb_ws, hb_wn, hb_wb⟩ := hb.2
 obtain ⟨hv_s, hv_n, hv_b⟩ := id hv
 refine AWp_seq ?_
 refine AWp_E rfl ?_
 refine S_box (l := [sv b.m.pa b.m.pn b.m.pc, sv b.m.ta b.m.tn b.m.tc, sv b.sa b.sn b.sc, fl b.film, fl b.bend, sv b.wa b.wn b.wc, fl b.fall.x, fl b.fall.y, fl b.fall.z]) hS rfl rfl rfl rfl rfl fun b1 H hS => ?_
 refine ed (sv none 0 0) rfl rfl (dv_assign rfl) ?_
 refine ed no rfl rfl (dv_assign rfl) ?_
 refine E_nil ?_
 refine th_norm ?_
 refine AWp_seq ?_
 refine AWp_seq ?_
 refine AWp_E rfl ?_
 refine S_lit (sz := 1) (enc := encI) (xs := ([] : List Int)) (n := 0) hS rfl rfl rfl rfl rfl rfl rfl rfl fun a2 H hS => ?_
 refine ed (sv v_a v_n v_c) rfl rfl (dv_move rfl) ?_
 refine ed (fl step) rfl rfl (dv_move rfl) ?_
 refine E_call (vs := [pt b1 0, sv a2 0 0, sv v_a v_n v_c, fl step]) rfl rfl rfl rfl rfl rfl rfl (l09Can_ok b1 0 b a2 0 0 ([] : List Int) v_a v_n v_c v step _ (PV.of (n := 9) (hS.box 0 rfl) rfl rfl) (hb.keep hS.keep) ⟨(hS.sls 1 rfl), rfl, (by first | omega | decide)⟩ (hv.keep hS.keep)) ?_
 rintro _ H (⟨h3, rfl, hQ⟩ | ⟨h4, rfl, hQ⟩)
 ·
  have hS := hS.up hQ.keep
  have hcb : Bod.ok b.d := h3.1
  have hch : heldP b.m.ps.length ([] : List Int) := h3.2.1
  have hcv : v.length = b.m.ps.length := h3.2.2.1
  have hco := h3.2.2.2
  have hbn : b.m.ps.length ≤ 64 := hcb.1.1
  refine ed no rfl rfl (dv_un rfl rfl) ?_
  refine ed no rfl rfl (dv_move rfl) ?_
  refine ed (iv count) rfl rfl (dv_move rfl) ?_
  refine E_call (vs := [iv count, iv 0, iv 40]) rfl rfl rfl rfl rfl rfl rfl (l00In_ok count 0 40 _) ?_
  rintro _ H (⟨h5, rfl, hQ⟩ | ⟨h6, rfl, hQ⟩)
  ·
   have hS := hS.up hQ.keep
   refine ed no rfl rfl (dv_un rfl rfl) ?_
   refine ed no rfl rfl (dv_pick (t := false) rfl rfl) ?_
   refine E_nil ?_
   refine th_norm ?_
   refine AWp_cond (t := false) rfl nofun (fun _ => ?_)
   refine AWp_skip ?_
   refine th_norm ?_
   refine AWp_seq ?_
   refine AWp_E rfl ?_
   refine S_lit (sz := 1) (enc := encF) (xs := ([] : List Nat)) (n := 0) hS rfl rfl rfl rfl rfl rfl rfl rfl fun a7 H hS => ?_
   refine ed (sv a7 0 0) rfl rfl (dv_assign rfl) ?_
   refine E_nil ?_
   refine th_norm ?_
   refine AWp_seq ?_
   refine AWp_seq ?_
   refine AWp_E rfl ?_
   refine ed (iv count) rfl rfl (dv_move rfl) ?_
   refine ed (iv (-count)) rfl rfl (dv_un rfl (un_neg (by omega))) ?_
   refine ed (iv (-count)) rfl rfl (dv_assign rfl) ?_
   refine E_nil ?_
   refine th_norm ?_
   refine AWp_block ?_
   obtain ⟨I8, hI8⟩ : ∃ I : Nat → Env → AH → Prop, ∀ m_ e_ Hl, I m_ e_ Hl = (∃ (wa : Option Addr) (wc : Nat) (w : List (Nat)) (k : Int), m_ = (count + 1 - k).toNat ∧ AllE [(0, bva b), (1, sv v_a v_n v_c), (2, fl step), (3, iv count), (4, pt b1 0), (8, sv none 0 0), (9, no), (10, sv wa w.length wc), (11, iv k), (13, sv a2 0 0), (14, sv v_a v_n v_c), (15, fl step), (16, yes), (17, no), (18, no), (19, iv count), (20, yes), (21, no), (22, no), (23, sv a7 0 0), (24, iv count), (25, iv (-count))] e_ ∧ SepL H0 [box b1 [sv b.m.pa b.m.pn b.m.pc, sv b.m.ta b.m.tn b.m.tc, sv b.sa b.sn b.sc, fl b.film, fl b.bend, sv b.wa b.wn b.wc, fl b.fall.x, fl b.fall.y, fl b.fall.z] 43, sl encI 2 1 a2 0 ([] : List Int), sl encF 27 1 wa wc w] Hl ∧ (-count ≤ k) ∧ (k ≤ count + 1) ∧ (w = runK (lineD b.d v step) count k)) := ⟨_, fun _ _ _ => rfl⟩
   refine AWp_loop I8 ((count + 1 - (-count)).toNat) ?_ ?_
   ·
    rw [hI8]
    refine ⟨a7, 0, ([] : List Nat), -count, rfl, (all_c rfl (all_c rfl (all_c rfl (all_c rfl (all_c rfl (all_c rfl (all_c rfl (all_c rfl (all_c rfl (all_c rfl (all_c rfl (all_c rfl (all_c rfl (all_c rfl (all_c rfl (all_c rfl (all_c rfl (all_c rfl (all_c rfl (all_c rfl (all_c rfl (all_c rfl all_n)))))))))))))))))))))), hS, ?_, ?_, ?_⟩
    · omega
    · omega
    · exact (runK_zero _ _).symm
   ·
    intro m9 _ H hl10
    rw [hI8] at hl10
    obtain ⟨wa, wc, w, k, hm11, he12, hS, hlo, hhi, hw⟩ := hl10
    obtain ⟨e13, rfl⟩ := he12.ex
    have hwl : w.length = (k + count).toNat := by rw [hw, runK, List.length_map, List.length_range]
    refine AWp_seq ?_
    refine AWp_seq ?_
    refine AWp_E rfl ?_
    refine ed (iv k) rfl rfl (dv_move rfl) ?_
    refine ed (iv count) rfl rfl (dv_move rfl) ?_
    rcases Decidable.em ((k : Int) ≤ count) with hc14 | hc14
    ·
     refine ed yes rfl rfl (dv_bin rfl rfl (bi_leq_t hc14)) ?_
     refine E_nil ?_
     refine th_norm ?_
     refine AWp_cond (t := true) rfl (fun _ => ?_) nofun
     refine AWp_skip ?_
     refine th_norm ?_
     refine AWp_seq ?_
     refine AWp_block ?_
     refine AWp_seq ?_
     refine AWp_E rfl ?_
     refine ed (sv v_a v_n v_c) rfl rfl (dv_move rfl) ?_
     refine ed (fl step) rfl rfl (dv_move rfl) ?_
     refine ed (iv k) rfl rfl (dv_move rfl) ?_
     refine ed (fl (FloatKind.nearest .f32 k)) rfl rfl (dv_conv rfl rfl) ?_
     refine ed (fl (fop .mul .f32 step (FloatKind.nearest .f32 k))) rfl rfl (dv_bin rfl rfl rfl) ?_
     refine E_call (vs := [pt b1 0, sv v_a v_n v_c, fl (fop .mul .f32 step (FloatKind.nearest .f32 k))]) rfl rfl rfl rfl rfl rfl rfl (l03Moved_ok b1 0 b v_a v_n v_c v (fop .mul .f32 step (FloatKind.nearest .f32 k)) _ (PV.of (n := 9) (hS.box 0 rfl) rfl rfl) (hb.keep hS.keep) (hv.keep hS.keep) (by first | assumption | omega | (rw [hcv]; assumption) | (rw [hcv]; omega))) ?_
     rintro _ H ⟨b15, h16, h17, h18, h19, rfl, hQ⟩
     have hdlh16 : b15.m.ps.length = (movedD b.d v (fop .mul .f32 step (FloatKind.nearest .f32 k))).m.ps.length := congrArg (fun d : Bod => d.m.ps.length) h16
     have hdth16 : (rxs b15.m.ts).length = (movedD b.d v (fop .mul .f32 step (FloatKind.nearest .f32 k))).m.ts.length := congrArg (fun d : Bod => d.m.ts.length) h16
     simp only [rxs, List.length_map] at hdth16
     have hdsh16 : b15.ss.length = (movedD b.d v (fop .mul .f32 step (FloatKind.nearest .f32 k))).ss.length := congrArg (fun d : Bod => d.ss.length) h16
     have hdwh16 : b15.ws.length = (movedD b.d v (fop .mul .f32 step (FloatKind.nearest .f32 k))).ws.length := congrArg (fun d : Bod => d.ws.length) h16
     have hS := hS.push hQ
     have hokh16 : Bod.ok b15.d := by rw [h16]; exact movedD_ok (by assumption) _ _
     have hmlh16 : b15.m.ps.length = b.m.ps.length := by rw [hdlh16]; exact moved_len _ _ _ _
     have hmsh16 : b15.ss.length = b.ss.length := hdsh16
     have hmwh16 : b15.ws.length = b.ws.length := hdwh16
     have hmth16 : b15.m.ts.length = b.m.ts.length := hdth16.trans (by show (rxs b.m.ts).length = _; rw [rxs, List.length_map])
     refine S_box (l := [sv none 0 0, sv none 0 0, sv none 0 0, fl 0, fl 0, sv none 0 0, fl 0, fl 0, fl 0]) hS rfl rfl rfl rfl rfl fun b20 H hS => ?_
     refine S_store (i := 8) (yv := bva b15) (l' := [sv b15.m.pa b15.m.pn b15.m.pc, sv b15.m.ta b15.m.tn b15.m.tc, sv b15.sa b15.sn b15.sc, fl b15.film, fl b15.bend, sv b15.wa b15.wn b15.wc, fl b15.fall.x, fl b15.fall.y, fl b15.fall.z]) hS rfl rfl rfl rfl rfl rfl rfl rfl rfl rfl rfl rfl fun H hS => ?_
     refine E_nil ?_
     refine th_norm ?_
     refine AWp_E rfl ?_
     refine ed (sv wa w.length wc) rfl rfl (dv_move rfl) ?_
     refine E_call (vs := [pt b20 0]) rfl rfl rfl rfl rfl rfl rfl (l03Energy_ok b20 0 b15 _ (PV.of (n := 9) (hS.box 8 rfl) rfl rfl) ⟨⟨⟨(hS.sls 3 rfl), h17.1, (by first | omega | decide)⟩, ⟨rows_of (hS.sls 4 rfl) (hS.at (i := 5) rfl) h18, h17.2, (by omega)⟩⟩, ⟨(hS.sls 6 rfl), h19.1, (by first | omega | decide)⟩, ⟨(hS.sls 7 rfl), h19.2, (by first | omega | decide)⟩⟩ (by first | assumption | omega | (rw [hcv]; assumption) | (rw [hcv]; omega))) ?_
     rintro _ H ⟨v21, rfl, rfl, hQ⟩
     have hS := hS.up hQ.keep
     refine S_lit (sz := 1) (enc := encF) (xs := ([energyD b15.d] : List (Nat))) (n := 1) hS rfl rfl rfl rfl rfl rfl rfl rfl fun a22 H hS => ?_
     refine S_append (k := 2) (bytes := 4) (enc := encF) (xs := w) (ys := ([energyD b15.d] : List (Nat))) hS rfl rfl rfl rfl rfl rfl rfl rfl rfl rfl (fun _ => rfl) (fun _ => rfl) rfl rfl rfl rfl (hS.sls 9 rfl) (by omega) (by omega) fun a23 c24 x25 H hx26 hn27 hS => ?_
     refine ed (sv a23 x25.length c24) rfl rfl (dv_assign rfl) ?_
     refine E_nil ?_
     refine bl_norm ?_
     refine th_norm ?_
     refine AWp_E rfl ?_
     refine ed (iv k) rfl rfl (dv_move rfl) ?_
     refine ed (iv (k + 1)) rfl rfl (dv_bin rfl rfl (bi_add (by omega))) ?_
     refine ed (iv (k + 1)) rfl rfl (dv_assign rfl) ?_
     refine E_nil ?_
     refine loop_next (I := I8) ((count + 1 - (k + 1)).toNat) (by rw [hm11]; omega) ?_
     rw [hI8]
     refine ⟨a23, c24, x25, k + 1, rfl, (all_c rfl (all_c rfl (all_c rfl (all_c rfl (all_c rfl (all_c rfl (all_c rfl (all_c rfl (all_c rfl (all_c rfl (all_c rfl (all_c rfl (all_c rfl (all_c rfl (all_c rfl (all_c rfl (all_c rfl (all_c rfl (all_c rfl (all_c rfl (all_c rfl (all_c rfl all_n)))))))))))))))))))))), (hS.pick [0, 1, 2] rfl), ?_, ?_, ?_⟩
     · omega
     · omega
     · rw [runK_step _ hlo, ← hw]
       first | exact (by assumption) | (simp only [lineD, *]; done) | (simp [lineD, *]; done)
    ·
     refine ed no rfl rfl (dv_bin rfl rfl (bi_leq_f hc14)) ?_
     refine E_nil ?_
     refine th_norm ?_
     refine AWp_cond (t := false) rfl nofun (fun _ => ?_)
     refine AWp_exit (th_exit (th_exit (bl_exit (?_))))
     refine th_norm ?_
     refine AWp_seq ?_
     refine AWp_E rfl ?_
     refine ed (sv wa w.length wc) rfl rfl (dv_move rfl) ?_
     refine ed (sv wa w.length wc) rfl rfl (dv_assign rfl) ?_
     refine ed yes rfl rfl (dv_assign rfl) ?_
     refine E_nil ?_
     refine th_norm ?_
     refine AWp_ret (?_)
     refine ret_of ?_
     refine readsRes_of (rs := [.tmp 8, .tmp 9]) (vs := [sv wa w.length wc, yes]) rfl (re_cons (re_tmp rfl) (re_cons (re_tmp rfl) (re_nil))) rfl ?_
     refine .inl ?_
     refine ⟨wa, w.length, wc, w, ?_, ?_, ?_, rfl, rfl, hS.pick [2] rfl⟩
     · exact ⟨by assumption, by omega, by omega⟩
     · omega
     · have hkk : k = count + 1 := by omega
       first | (rw [← hkk]; assumption) | (rw [← hkk, ← hw]; first | rfl | assumption | (simp_all; done))
  ·
   have hS := hS.up hQ.keep
   refine ed yes rfl rfl (dv_un rfl rfl) ?_
   refine ed yes rfl rfl (dv_pick (t := false) rfl rfl) ?_
   refine E_nil ?_
   refine th_norm ?_
   refine AWp_cond (t := true) rfl (fun _ => ?_) nofun
   refine AWp_seq ?_
   refine AWp_E rfl ?_
   refine ed (sv none 0 0) rfl rfl (dv_assign rfl) ?_
   refine ed no rfl rfl (dv_assign rfl) ?_
   refine E_nil ?_
   refine th_norm ?_
   refine AWp_ret (th_ret (?_))
   refine ret_of ?_
   refine readsRes_of (rs := [.tmp 8, .tmp 9]) (vs := [sv none 0 0, no]) rfl (re_cons (re_tmp rfl) (re_cons (re_tmp rfl) (re_nil))) rfl ?_
   refine .inr (?_)
   refine ⟨?_, rfl, .base hS.keep⟩
   · intro hh
     first | exact absurd hh.1 (by assumption) | (obtain ⟨h1, h2, h3⟩ := hh; omega) | simp_all
 ·
  have hS := hS.up hQ.keep
  refine ed yes rfl rfl (dv_un rfl rfl) ?_
  refine ed yes rfl rfl (dv_move rfl) ?_
  refine E_skip rfl rfl ?_
  refine E_skip rfl rfl ?_
  refine E_skip rfl rfl ?_
  refine ed yes rfl rfl (dv_pick (t := true) rfl rfl) ?_
  refine E_nil ?_
  refine th_norm ?_
  refine AWp_cond (t := true) rfl (fun _ => ?_) nofun
  refine AWp_seq ?_
  refine AWp_E rfl ?_
  refine ed (sv none 0 0) rfl rfl (dv_assign rfl) ?_
  refine ed no rfl rfl (dv_assign rfl) ?_
  refine E_nil ?_
  refine th_norm ?_
  refine AWp_ret (th_ret (?_))
  refine ret_of ?_
  refine readsRes_of (rs := [.tmp 8, .tmp 9]) (vs := [sv none 0 0, no]) rfl (re_cons (re_tmp rfl) (re_cons (re_tmp rfl) (re_nil))) rfl ?_
  refine .inr (?_)
  refine ⟨?_, rfl, .base hS.keep⟩
  · intro hh
    first | exact absurd hh.1 (by assumption) | (obtain ⟨h1, h2, h3⟩ := hh; omega) | simp_all
end Go.Ab

set_option maxRecDepth 100000
set_option maxHeartbeats 4000000
namespace Go.Ab
open Go.Proofs
theorem impl_EnergiesAlong_ok (b : LB) (v_a : Option Addr) (v_n v_c : Nat) (v : List (V3)) (step : Nat) (count : Int) (H : AH) (hb : b.ok H) (hv : VS H encV v_a v_n v) : ACalls Tryz.prog 16 [bva b, sv v_a v_n v_c, fl step, iv count] H
  (fun r H' => (∃ (x0_a : Option Addr), ∃ (x0_n : Nat), ∃ (x0_c : Nat), ∃ (x0_ : List (Nat)), (canP b.d [] v.length step ∧ 0 ≤ count ∧ count ≤ 40) ∧ x0_.length ≤ 81 ∧ x0_ = runK (lineD b.d v step) count (count + 1) ∧ x0_.length = x0_n ∧ r = .tuple #[sv x0_a x0_n x0_c, yes] ∧ SepL H [sl encF 27 1 x0_a x0_c x0_] H') ∨ ((¬(canP b.d [] v.length step ∧ 0 ≤ count ∧ count ≤ 40)) ∧ r = .tuple #[sv none 0 0, no] ∧ SepL H [] H')) := by
 refine ACalls_of Tryz.func16 rfl (Nat.le_of_ble_eq_true rfl) ?_
 obtain ⟨H0, hH0⟩ : ∃ H0, H0 = H := ⟨_, rfl⟩
 have hS : SepL H0 [] H := hH0 ▸ SepL.refl H
 subst hH0
 obtain ⟨⟨hb_1_ps, hb_1_pn, hb_1_pb⟩, hb_1_ts, hb_1_tn, hb_1_tb⟩ := id hb.1
 obtain ⟨⟨hb_ss, hb_sn, hb_sb⟩, hb_ws, hb_wn, hb_wb⟩ := hb.2
 obtain ⟨hv_s, hv_n, hv_b⟩ := id hv
 refine AWp_seq ?_
 refine AWp_E rfl ?_
 refine S_box (l := [sv b.m.pa b.m.pn b.m.pc, sv b.m.ta b.m.tn b.m.tc, sv b.sa b.sn b.sc, fl b.film, fl b.bend, sv b.wa b.wn b.wc, fl b.fall.x, fl b.fall.y, fl b.fall.z]) hS rfl rfl rfl rfl rfl fun b1 H hS => ?_
 refine ed (sv none 0 0) rfl rfl (dv_assign rfl) ?_
 refine ed no rfl rfl (dv_assign rfl) ?_
 refine E_nil ?_
 refine th_norm ?_
 refine AWp_seq ?_
 refine AWp_seq ?_
 refine AWp_E rfl ?_
 refine ed (bva b) rfl rfl (dv_load rfl (ld_boxA (n := 9) (hS.box 0 rfl) rfl rfl (Nat.le_of_ble_eq_true rfl) rfl)) ?_
 refine ed (sv v_a v_n v_c) rfl rfl (dv_move rfl) ?_
 refine ed (fl step) rfl rfl (dv_move rfl) ?_
 refine E_call (vs := [bva b, sv none 0 0, sv v_a v_n v_c, fl step]) rfl rfl rfl rfl rfl rfl rfl (areFor_ok b none 0 0 [] v_a v_n v_c v step _ (hb.keep hS.keep) ⟨.nil, rfl, by decide⟩ (hv.keep hS.keep)) ?_
 rintro _ H (⟨h2, rfl, hQ⟩ | ⟨h3, rfl, hQ⟩)
 ·
  have hS := hS.up hQ.keep
  have hcb : Bod.ok b.d := h2.1
  have hch : heldP b.m.ps.length [] := h2.2.1
  have hcv : v.length = b.m.ps.length := h2.2.2.1
  have hco := h2.2.2.2
  have hbn : b.m.ps.length ≤ 64 := hcb.1.1
  refine ed no rfl rfl (dv_un rfl rfl) ?_
  refine ed no rfl rfl (dv_move rfl) ?_
  refine ed (iv count) rfl rfl (dv_move rfl) ?_
  refine E_call (vs := [iv count, iv 0, iv 40]) rfl rfl rfl rfl rfl rfl rfl (within_ok count 0 40 _) ?_
  rintro _ H (⟨h4, rfl, hQ⟩ | ⟨h5, rfl, hQ⟩)
  ·
   have hS := hS.up hQ.keep
   refine ed no rfl rfl (dv_un rfl rfl) ?_
   refine ed no rfl rfl (dv_pick (t := false) rfl rfl) ?_
   refine E_nil ?_
   refine th_norm ?_
   refine AWp_cond (t := false) rfl nofun (fun _ => ?_)
   refine AWp_skip ?_
   refine th_norm ?_
   refine AWp_seq ?_
   refine AWp_E rfl ?_
   refine S_lit (sz := 1) (enc := encF) (xs := ([] : List Nat)) (n := 0) hS rfl rfl rfl rfl rfl rfl rfl rfl fun a6 H hS => ?_
   refine ed (sv a6 0 0) rfl rfl (dv_assign rfl) ?_
   refine E_nil ?_
   refine th_norm ?_
   refine AWp_seq ?_
   refine AWp_seq ?_
   refine AWp_E rfl ?_
   refine ed (iv count) rfl rfl (dv_move rfl) ?_
   refine ed (iv (-count)) rfl rfl (dv_un rfl (un_neg (by omega))) ?_
   refine ed (iv (-count)) rfl rfl (dv_assign rfl) ?_
   refine E_nil ?_
   refine th_norm ?_
   refine AWp_block ?_
   obtain ⟨I7, hI7⟩ : ∃ I : Nat → Env → AH → Prop, ∀ m_ e_ Hl, I m_ e_ Hl = (∃ (wa : Option Addr) (wc : Nat) (w : List (Nat)) (k : Int), m_ = (count + 1 - k).toNat ∧ AllE [(0, bva b), (1, sv v_a v_n v_c), (2, fl step), (3, iv count), (4, pt b1 0), (8, sv none 0 0), (9, no), (10, sv wa w.length wc), (11, iv k), (12, bva b), (13, sv v_a v_n v_c), (14, fl step), (15, yes), (16, no), (17, no), (18, iv count), (19, yes), (20, no), (21, no), (22, sv a6 0 0), (23, iv count), (24, iv (-count))] e_ ∧ SepL H0 [box b1 [sv b.m.pa b.m.pn b.m.pc, sv b.m.ta b.m.tn b.m.tc, sv b.sa b.sn b.sc, fl b.film, fl b.bend, sv b.wa b.wn b.wc, fl b.fall.x, fl b.fall.y, fl b.fall.z] 43, sl encF 27 1 wa wc w] Hl ∧ (-count ≤ k) ∧ (k ≤ count + 1) ∧ (w = runK (lineD b.d v step) count k)) := ⟨_, fun _ _ _ => rfl⟩
   refine AWp_loop I7 ((count + 1 - (-count)).toNat) ?_ ?_
   ·
    rw [hI7]
    refine ⟨a6, 0, ([] : List Nat), -count, rfl, (all_c rfl (all_c rfl (all_c rfl (all_c rfl (all_c rfl (all_c rfl (all_c rfl (all_c rfl (all_c rfl (all_c rfl (all_c rfl (all_c rfl (all_c rfl (all_c rfl (all_c rfl (all_c rfl (all_c rfl (all_c rfl (all_c rfl (all_c rfl (all_c rfl (all_c rfl all_n)))))))))))))))))))))), hS, ?_, ?_, ?_⟩
    · omega
    · omega
    · exact (runK_zero _ _).symm
   ·
    intro m8 _ H hl9
    rw [hI7] at hl9
    obtain ⟨wa, wc, w, k, hm10, he11, hS, hlo, hhi, hw⟩ := hl9
    obtain ⟨e12, rfl⟩ := he11.ex
    have hwl : w.length = (k + count).toNat := by rw [hw, runK, List.length_map, List.length_range]
    refine AWp_seq ?_
    refine AWp_seq ?_
    refine AWp_E rfl ?_
    refine ed (iv k) rfl rfl (dv_move rfl) ?_
    refine ed (iv count) rfl rfl (dv_move rfl) ?_
    rcases Decidable.em ((k : Int) ≤ count) with hc13 | hc13
    ·
     refine ed yes rfl rfl (dv_bin rfl rfl (bi_leq_t hc13)) ?_
     refine E_nil ?_
     refine th_norm ?_
     refine AWp_cond (t := true) rfl (fun _ => ?_) nofun
     refine AWp_skip ?_
     refine th_norm ?_
     refine AWp_seq ?_
     refine AWp_block ?_
     refine AWp_E rfl ?_
     refine ed (sv wa w.length wc) rfl rfl (dv_move rfl) ?_
     refine ed (bva b) rfl rfl (dv_load rfl (ld_boxA (n := 9) (hS.box 0 rfl) rfl rfl (Nat.le_of_ble_eq_true rfl) rfl)) ?_
     refine ed (sv v_a v_n v_c) rfl rfl (dv_move rfl) ?_
     refine ed (fl step) rfl rfl (dv_move rfl) ?_
     refine ed (iv k) rfl rfl (dv_move rfl) ?_
     refine ed (fl (FloatKind.nearest .f32 k)) rfl rfl (dv_conv rfl rfl) ?_
     refine ed (fl (fop .mul .f32 step (FloatKind.nearest .f32 k))) rfl rfl (dv_bin rfl rfl rfl) ?_
     refine E_call (vs := [bva b, sv v_a v_n v_c, fl (fop .mul .f32 step (FloatKind.nearest .f32 k))]) rfl rfl rfl rfl rfl rfl rfl (moved_ok b v_a v_n v_c v (fop .mul .f32 step (FloatKind.nearest .f32 k)) _ (hb.keep hS.keep) (hv.keep hS.keep) (by first | assumption | omega | (rw [hcv]; assumption) | (rw [hcv]; omega))) ?_
     rintro _ H ⟨b14, h15, h16, h17, h18, rfl, hQ⟩
     have hdlh15 : b14.m.ps.length = (movedD b.d v (fop .mul .f32 step (FloatKind.nearest .f32 k))).m.ps.length := congrArg (fun d : Bod => d.m.ps.length) h15
     have hdth15 : (rxs b14.m.ts).length = (movedD b.d v (fop .mul .f32 step (FloatKind.nearest .f32 k))).m.ts.length := congrArg (fun d : Bod => d.m.ts.length) h15
     simp only [rxs, List.length_map] at hdth15
     have hdsh15 : b14.ss.length = (movedD b.d v (fop .mul .f32 step (FloatKind.nearest .f32 k))).ss.length := congrArg (fun d : Bod => d.ss.length) h15
     have hdwh15 : b14.ws.length = (movedD b.d v (fop .mul .f32 step (FloatKind.nearest .f32 k))).ws.length := congrArg (fun d : Bod => d.ws.length) h15
     have hS := hS.push hQ
     have hokh15 : Bod.ok b14.d := by rw [h15]; exact movedD_ok (by assumption) _ _
     have hmlh15 : b14.m.ps.length = b.m.ps.length := by rw [hdlh15]; exact moved_len _ _ _ _
     have hmsh15 : b14.ss.length = b.ss.length := hdsh15
     have hmwh15 : b14.ws.length = b.ws.length := hdwh15
     have hmth15 : b14.m.ts.length = b.m.ts.length := hdth15.trans (by show (rxs b.m.ts).length = _; rw [rxs, List.length_map])
     refine E_call (vs := [bva b14]) rfl rfl rfl rfl rfl rfl rfl (energyOf_ok b14 _ ⟨⟨⟨(hS.sls 2 rfl), h16.1, (by first | omega | decide)⟩, ⟨rows_of (hS.sls 3 rfl) (hS.at (i := 4) rfl) h17, h16.2, (by omega)⟩⟩, ⟨(hS.sls 5 rfl), h18.1, (by first | omega | decide)⟩, ⟨(hS.sls 6 rfl), h18.2, (by first | omega | decide)⟩⟩ (by first | assumption | omega | (rw [hcv]; assumption) | (rw [hcv]; omega))) ?_
     rintro _ H ⟨v19, rfl, rfl, hQ⟩
     have hS := hS.up hQ.keep
     refine S_lit (sz := 1) (enc := encF) (xs := ([energyD b14.d] : List (Nat))) (n := 1) hS rfl rfl rfl rfl rfl rfl rfl rfl fun a20 H hS => ?_
     refine S_append (k := 1) (bytes := 4) (enc := encF) (xs := w) (ys := ([energyD b14.d] : List (Nat))) hS rfl rfl rfl rfl rfl rfl rfl rfl rfl rfl (fun _ => rfl) (fun _ => rfl) rfl rfl rfl rfl (hS.sls 7 rfl) (by omega) (by omega) fun a21 c22 x23 H hx24 hn25 hS => ?_
     refine ed (sv a21 x23.length c22) rfl rfl (dv_assign rfl) ?_
     refine E_nil ?_
     refine bl_norm ?_
     refine th_norm ?_
     refine AWp_E rfl ?_
     refine ed (iv k) rfl rfl (dv_move rfl) ?_
     refine ed (iv (k + 1)) rfl rfl (dv_bin rfl rfl (bi_add (by omega))) ?_
     refine ed (iv (k + 1)) rfl rfl (dv_assign rfl) ?_
     refine E_nil ?_
     refine loop_next (I := I7) ((count + 1 - (k + 1)).toNat) (by rw [hm10]; omega) ?_
     rw [hI7]
     refine ⟨a21, c22, x23, k + 1, rfl, (all_c rfl (all_c rfl (all_c rfl (all_c rfl (all_c rfl (all_c rfl (all_c rfl (all_c rfl (all_c rfl (all_c rfl (all_c rfl (all_c rfl (all_c rfl (all_c rfl (all_c rfl (all_c rfl (all_c rfl (all_c rfl (all_c rfl (all_c rfl (all_c rfl (all_c rfl all_n)))))))))))))))))))))), (hS.pick [0, 1] rfl), ?_, ?_, ?_⟩
     · omega
     · omega
     · rw [runK_step _ hlo, ← hw]
       first | exact (by assumption) | (simp only [lineD, *]; done) | (simp [lineD, *]; done)
    ·
     refine ed no rfl rfl (dv_bin rfl rfl (bi_leq_f hc13)) ?_
     refine E_nil ?_
     refine th_norm ?_
     refine AWp_cond (t := false) rfl nofun (fun _ => ?_)
     refine AWp_exit (th_exit (th_exit (bl_exit (?_))))
     refine th_norm ?_
     refine AWp_seq ?_
     refine AWp_E rfl ?_
     refine ed (sv wa w.length wc) rfl rfl (dv_move rfl) ?_
     refine ed (sv wa w.length wc) rfl rfl (dv_assign rfl) ?_
     refine ed yes rfl rfl (dv_assign rfl) ?_
     refine E_nil ?_
     refine th_norm ?_
     refine AWp_ret (?_)
     refine ret_of ?_
     refine readsRes_of (rs := [.tmp 8, .tmp 9]) (vs := [sv wa w.length wc, yes]) rfl (re_cons (re_tmp rfl) (re_cons (re_tmp rfl) (re_nil))) rfl ?_
     refine .inl ?_
     refine ⟨wa, w.length, wc, w, ?_, ?_, ?_, rfl, rfl, hS.pick [1] rfl⟩
     · exact ⟨by assumption, by omega, by omega⟩
     · omega
     · have hkk : k = count + 1 := by omega
       first | (rw [← hkk]; assumption) | (rw [← hkk, ← hw]; first | rfl | assumption | (simp_all; done))
  ·
   have hS := hS.up hQ.keep
   refine ed yes rfl rfl (dv_un rfl rfl) ?_
   refine ed yes rfl rfl (dv_pick (t := false) rfl rfl) ?_
   refine E_nil ?_
   refine th_norm ?_
   refine AWp_cond (t := true) rfl (fun _ => ?_) nofun
   refine AWp_seq ?_
   refine AWp_E rfl ?_
   refine ed (sv none 0 0) rfl rfl (dv_assign rfl) ?_
   refine ed no rfl rfl (dv_assign rfl) ?_
   refine E_nil ?_
   refine th_norm ?_
   refine AWp_ret (th_ret (?_))
   refine ret_of ?_
   refine readsRes_of (rs := [.tmp 8, .tmp 9]) (vs := [sv none 0 0, no]) rfl (re_cons (re_tmp rfl) (re_cons (re_tmp rfl) (re_nil))) rfl ?_
   refine .inr (?_)
   refine ⟨?_, rfl, .base hS.keep⟩
   · intro hh
     first | exact absurd hh.1 (by assumption) | (obtain ⟨h1, h2, h3⟩ := hh; omega) | simp_all
 ·
  have hS := hS.up hQ.keep
  refine ed yes rfl rfl (dv_un rfl rfl) ?_
  refine ed yes rfl rfl (dv_move rfl) ?_
  refine E_skip rfl rfl ?_
  refine E_skip rfl rfl ?_
  refine E_skip rfl rfl ?_
  refine ed yes rfl rfl (dv_pick (t := true) rfl rfl) ?_
  refine E_nil ?_
  refine th_norm ?_
  refine AWp_cond (t := true) rfl (fun _ => ?_) nofun
  refine AWp_seq ?_
  refine AWp_E rfl ?_
  refine ed (sv none 0 0) rfl rfl (dv_assign rfl) ?_
  refine ed no rfl rfl (dv_assign rfl) ?_
  refine E_nil ?_
  refine th_norm ?_
  refine AWp_ret (th_ret (?_))
  refine ret_of ?_
  refine readsRes_of (rs := [.tmp 8, .tmp 9]) (vs := [sv none 0 0, no]) rfl (re_cons (re_tmp rfl) (re_cons (re_tmp rfl) (re_nil))) rfl ?_
  refine .inr (?_)
  refine ⟨?_, rfl, .base hS.keep⟩
  · intro hh
    first | exact absurd hh.1 (by assumption) | (obtain ⟨h1, h2, h3⟩ := hh; omega) | simp_all
end Go.Ab

/- Walks through functions of the program: what each computes, told over that view of memory; each with the conditions that it tells. -/
import Derived.Test.YtpiidmgenkjiiaaGreatProg
import Derived.Test.YtpiidmgenkjiiaaGreatWs
import Derived.Test.YtpiidmgenkjiiaaGreatVb
import Derived.Test.YtpiidmgenkjiiaaGreatWb
set_option maxRecDepth 100000
set_option maxHeartbeats 4000000
namespace Go.Ab
open Go.Proofs
theorem pairMap154 : PairMap Tryz.prog 154 := ⟨_, _, _, rfl, rfl, rfl, rfl, rfl, rfl⟩
theorem trianglesByEdge_ok (m : LM) (H : AH) (hm : m.ok H) (hm0 : meshP m.ps.length (rxs m.ts)) : ACalls Tryz.prog 145 [mva m] H
  (fun r H' => ∃ (kv_ : List KV), ∃ (mb_ : Nat), ∃ (x1_a : Option Addr), ∃ (x1_n : Nat), ∃ (x1_c : Nat), ∃ (x1_ : List (Int × Int)), MapI kv_ (pairs (rxs m.ts)) ∧ x1_ = edgeList m.ps.length (rxs m.ts) ∧ x1_.length = x1_n ∧ r = .tuple #[.map (some mb_), sv x1_a x1_n x1_c] ∧ SepL H [mapE mb_ (mkes kv_) kv_.length, rowsE 2 (kv_.map (·.2)), sl encE 159 2 x1_a x1_c x1_] H') := by
 refine ACalls_of Tryz.func145 rfl (Nat.le_of_ble_eq_true rfl) ?_
 obtain ⟨H0, hH0⟩ : ∃ H0, H0 = H := ⟨_, rfl⟩
 have hS : SepL H0 [] H := hH0 ▸ SepL.refl H
 subst hH0
 obtain ⟨⟨hm_ps, hm_pn, hm_pb⟩, hm_ts, hm_tn, hm_tb⟩ := id hm
 refine AWp_seq ?_
 refine AWp_E rfl ?_
 refine S_box (l := [sv m.pa m.pn m.pc, sv m.ta m.tn m.tc]) hS rfl rfl rfl rfl rfl fun b1 H hS => ?_
 refine ed (.map none) rfl rfl (dv_assign rfl) ?_
 refine ed (sv none 0 0) rfl rfl (dv_assign rfl) ?_
 refine E_nil ?_
 refine th_norm ?_
 refine AWp_seq ?_
 refine AWp_E rfl ?_
 refine S_map hS rfl rfl rfl rfl fun b2 H hS => ?_
 refine S_lit (sz := 2) (enc := encE) (xs := ([] : List (Int × Int))) (n := 0) hS rfl rfl rfl rfl rfl rfl rfl rfl fun a3 H hS => ?_
 refine ed (.map (some b2)) rfl rfl (dv_assign rfl) ?_
 refine ed (sv a3 0 0) rfl rfl (dv_assign rfl) ?_
 refine E_nil ?_
 refine th_norm ?_
 refine AWp_seq ?_
 refine AWp_seq ?_
 refine AWp_E rfl ?_
 refine ed (pt b1 1) rfl rfl (dv_fieldAddr rfl rfl) ?_
 refine ed (sv m.ta m.tn m.tc) rfl rfl (dv_load rfl (ld_box (hS.box 0 rfl) rfl rfl rfl)) ?_
 refine ed (iv ((m.tn : Nat) : Int)) rfl rfl (dv_len rfl rfl rfl rfl rfl) ?_
 refine ed (iv 0) rfl rfl (dv_move rfl) ?_
 refine E_nil ?_
 refine th_norm ?_
 refine AWp_block ?_
 have hS := hS.zero (rowE1 2)
 obtain ⟨I4, hI4⟩ : ∃ I : Nat → Env → AH → Prop, ∀ m_ e_ Hl, I m_ e_ Hl = (∃ (la : Option Addr) (lc : Nat) (l : List (Int × Int)) (i : Nat) (kvs : List KV), m_ = m.tn - i ∧ AllE [(0, mva m), (1, pt b1 0), (2, .map none), (3, sv none 0 0), (4, .map (some b2)), (5, sv la l.length lc), (10, .map (some b2)), (11, sv a3 0 0), (12, pt b1 1), (13, sv m.ta m.tn m.tc), (14, iv ((m.tn : Nat) : Int)), (15, iv ((i : Nat) : Int))] e_ ∧ SepL H0 [box b1 [sv m.pa m.pn m.pc, sv m.ta m.tn m.tc] 39, mapE b2 (mkes kvs) kvs.length, sl encE 159 2 la lc l, rowsE 2 (kvs.map (·.2))] Hl ∧ (i ≤ m.tn) ∧ (MapI kvs (pairs ((rxs m.ts).take i))) ∧ (l = kvs.map (·.1)) ∧ (l.length ≤ 400)) := ⟨_, fun _ _ _ => rfl⟩
 refine AWp_loop I4 (m.tn - (0)) ?_ ?_
 ·
  rw [hI4]
  refine ⟨a3, 0, ([] : List (Int × Int)), 0, ([] : List KV), rfl, (all_c rfl (all_c rfl (all_c rfl (all_c rfl (all_c rfl (all_c rfl (all_c rfl (all_c rfl (all_c rfl (all_c rfl (all_c rfl (all_c rfl all_n)))))))))))), hS, ?_, ?_, ?_, ?_⟩
  · omega
  · exact MapI.start
  · rfl
  · simp
 ·
  intro m5 _ H hl6
  rw [hI4] at hl6
  obtain ⟨la, lc, l, i, kvs, hm7, he8, hS, hi, hI, hl, hlb⟩ := hl6
  obtain ⟨e9, rfl⟩ := he8.ex
  refine AWp_seq ?_
  refine AWp_E rfl ?_
  rcases Decidable.em (((i : Nat) : Int) < ((m.tn : Nat) : Int)) with hc10 | hc10
  ·
   refine ed yes rfl rfl (dv_bin rfl rfl (bi_lss_t hc10)) ?_
   refine E_nil ?_
   refine th_norm ?_
   refine AWp_seq ?_
   refine AWp_cond (t := true) rfl (fun _ => ?_) nofun
   refine AWp_skip ?_
   refine th_norm ?_
   refine AWp_seq ?_
   refine AWp_block ?_
   refine AWp_seq ?_
   refine AWp_E rfl ?_
   refine ed (iv ((i : Nat) : Int)) rfl rfl (dv_move rfl) ?_
   obtain ⟨x11, hx11⟩ := get_el (xs := m.ts) (i := i) (by omega)
   have hv12 := hm_ts.el hx11
   have hv12l := hv12.2
   have hx3 := (meshP_row hm0 hx11).1
   refine ed (sp m.ta (i * 1)) rfl rfl (dv_indexAddr (a := sv m.ta m.tn m.tc) (b := iv ((i : Nat) : Int)) rfl rfl (ix_sls (n := m.tn) (i := i) (hm_ts.1.keep hS.keep) hx11 rfl rfl rfl (by omega))) ?_
   refine ed (sv x11.a x11.xs.length x11.c) rfl rfl (dv_load rfl (ld_sls (sz := 1) (off := 0) (hm_ts.1.keep hS.keep) hx11 (fun _ => rfl) rfl rfl rfl)) ?_
   refine ed (iv ((i : Nat) : Int)) rfl rfl (dv_assign rfl) ?_
   refine ed (sv x11.a x11.xs.length x11.c) rfl rfl (dv_assign rfl) ?_
   refine E_nil ?_
   refine th_norm ?_
   refine AWp_seq ?_
   refine AWp_E rfl ?_
   refine ed (iv 0) rfl rfl (dv_move rfl) ?_
   refine E_nil ?_
   refine th_norm ?_
   refine AWp_block ?_
   obtain ⟨I13, hI13⟩ : ∃ I : Nat → Env → AH → Prop, ∀ m_ e_ Hl, I m_ e_ Hl = (∃ (la : Option Addr) (lc : Nat) (l : List (Int × Int)) (k : Nat) (kvs : List KV), m_ = 3 - k ∧ AllE [(0, mva m), (1, pt b1 0), (2, .map none), (3, sv none 0 0), (4, .map (some b2)), (5, sv la l.length lc), (6, iv ((i : Nat) : Int)), (7, sv x11.a x11.xs.length x11.c), (10, .map (some b2)), (11, sv a3 0 0), (12, pt b1 1), (13, sv m.ta m.tn m.tc), (14, iv ((m.tn : Nat) : Int)), (15, iv ((i : Nat) : Int)), (16, yes), (17, iv ((i : Nat) : Int)), (18, sp m.ta (i * 1)), (19, sv x11.a x11.xs.length x11.c), (20, iv ((k : Nat) : Int))] e_ ∧ SepL H0 [box b1 [sv m.pa m.pn m.pc, sv m.ta m.tn m.tc] 39, mapE b2 (mkes kvs) kvs.length, sl encE 159 2 la lc l, rowsE 2 (kvs.map (·.2))] Hl ∧ (k ≤ 3) ∧ (MapI kvs (pairs ((rxs m.ts).take i) ++ (pairsAt x11.xs i).take k)) ∧ (l = kvs.map (·.1))) := ⟨_, fun _ _ _ => rfl⟩
   refine AWp_loop I13 (3 - (0)) ?_ ?_
   ·
    rw [hI13]
    refine ⟨la, lc, l, 0, kvs, rfl, (all_c rfl (all_c rfl (all_c rfl (all_c rfl (all_c rfl (all_c rfl (all_c rfl (all_c rfl (all_c rfl (all_c rfl (all_c rfl (all_c rfl (all_c rfl (all_c rfl (all_c rfl (all_c rfl (all_c rfl (all_c rfl (all_c rfl all_n))))))))))))))))))), hS, ?_, ?_, ?_⟩
    · omega
    · simpa using hI
    · exact hl
   ·
    intro m14 _ H hl15
    rw [hI13] at hl15
    obtain ⟨la, lc, l, k, kvs, hm16, he17, hS, hk, hI2, hl2⟩ := hl15
    obtain ⟨e18, rfl⟩ := he17.ex
    have hpl := pairs_len ((rxs m.ts).take i)
    have hkl := hI2.len
    have hll : l.length = kvs.length := by rw [hl2, List.length_map]
    have htl : ((pairsAt x11.xs i).take k).length ≤ 3 := by rw [List.length_take]; omega
    rw [List.length_append, hpl, List.length_take] at hkl
    have hmi : min i (rxs m.ts).length ≤ 128 := by have h1 := hm0.2.1; omega
    refine AWp_seq ?_
    refine AWp_E rfl ?_
    rcases Decidable.em (((k : Nat) : Int) < 3) with hc19 | hc19
    ·
     refine ed yes rfl rfl (dv_bin rfl rfl (bi_lss_t hc19)) ?_
     refine E_nil ?_
     refine th_norm ?_
     refine AWp_seq ?_
     refine AWp_cond (t := true) rfl (fun _ => ?_) nofun
     refine AWp_skip ?_
     refine th_norm ?_
     refine AWp_seq ?_
     refine AWp_block ?_
     refine AWp_seq ?_
     refine AWp_E rfl ?_
     refine ed (iv ((k : Nat) : Int)) rfl rfl (dv_move rfl) ?_
     refine ed (iv ((k : Nat) : Int)) rfl rfl (dv_assign rfl) ?_
     refine E_nil ?_
     refine th_norm ?_
     refine AWp_seq ?_
     have hR := hS.pushes
     have hKb := hS.keep
     have hB := fun Hc (hc : Keep _ Hc) => hR [] Hc (.base hc)
     refine AWp_D0 rfl (by decide +kernel) fun hM => ?_
     refine wd (sv x11.a x11.xs.length x11.c) rfl rfl (fun _ hc => dv_move rfl) ?_
     refine wd (iv ((k : Nat) : Int)) rfl rfl (fun _ hc => dv_move rfl) ?_
     obtain ⟨x20, hx20⟩ := get_el (xs := x11.xs) (i := k) (by omega)
     refine wd (sp x11.a (k * 1)) rfl rfl (fun _ hc => dv_indexAddr (a := sv x11.a x11.xs.length x11.c) (b := iv ((k : Nat) : Int)) rfl rfl (ix_sls (n := x11.xs.length) (i := k) (hv12.1.keep (hKb.trans hc)) hx20 rfl rfl rfl (get_lt hx20))) ?_
     refine wd (iv x20) rfl rfl (fun _ hc => dv_load rfl (ld_sls (sz := 1) (off := 0) (hv12.1.keep (hKb.trans hc)) hx20 (fun _ => rfl) rfl rfl rfl)) ?_
     refine wd (sv x11.a x11.xs.length x11.c) rfl rfl (fun _ hc => dv_move rfl) ?_
     refine wd (iv ((k : Nat) : Int)) rfl rfl (fun _ hc => dv_move rfl) ?_
     refine wd (iv ((k + 1 : Nat) : Int)) rfl rfl (fun _ hc => dv_bin rfl rfl (bi_add (by omega))) ?_
     refine wd (iv (((k + 1) % 3 : Nat) : Int)) rfl rfl (fun _ hc => dv_bin rfl rfl (bi_rem (by decide))) ?_
     obtain ⟨x21, hx21⟩ := get_el (xs := x11.xs) (i := (k + 1) % 3) (by omega)
     refine wd (sp x11.a (((k + 1) % 3) * 1)) rfl rfl (fun _ hc => dv_indexAddr (a := sv x11.a x11.xs.length x11.c) (b := iv (((k + 1) % 3 : Nat) : Int)) rfl rfl (ix_sls (n := x11.xs.length) (i := ((k + 1) % 3)) (hv12.1.keep (hKb.trans hc)) hx21 rfl rfl rfl (get_lt hx21))) ?_
     refine wd (iv x21) rfl rfl (fun _ hc => dv_load rfl (ld_sls (sz := 1) (off := 0) (hv12.1.keep (hKb.trans hc)) hx21 (fun _ => rfl) rfl rfl rfl)) ?_
     refine W_call (vs := [iv x20, iv x21]) rfl rfl rfl rfl rfl rfl rfl (edgeOf_ok x20 x21 _) ?_
     rintro _ H ⟨v22, rfl, rfl, hQ⟩
     have hM := hM.up hQ.keep
     refine ⟨hM.keep, ?_⟩
     refine D_box (l := [iv 0, iv 0]) hM rfl rfl rfl rfl rfl fun b23 H hM => ?_
     have hS := hR _ _ hM
     refine D_store (i := 4) (yv := .agg #[iv ((min x20 x21, max x20 x21).1), iv ((min x20 x21, max x20 x21).2)]) (l' := [iv ((min x20 x21, max x20 x21).1), iv ((min x20 x21, max x20 x21).2)]) hS rfl rfl rfl rfl rfl rfl rfl rfl rfl rfl rfl rfl rfl fun H hS => ?_
     refine th_norm ?_
     refine AWp_seq ?_
     refine AWp_seq ?_
     refine AWp_E rfl ?_
     refine ed (.map (some b2)) rfl rfl (dv_move rfl) ?_
     refine ed (.agg #[iv ((min x20 x21, max x20 x21).1), iv ((min x20 x21, max x20 x21).2)]) rfl rfl (dv_load rfl (ld_boxA (n := 2) (hS.box 4 rfl) rfl rfl (Nat.le_of_ble_eq_true rfl) rfl)) ?_
     refine S_lookupP (i := 1) (x := (min x20 x21, max x20 x21)) (kvs := kvs) hS rfl rfl rfl rfl rfl pairMap154 rfl rfl (fun hno => ?_) (fun j qj hj => ?_)
     ·
      refine ed (iv 0) rfl rfl (dv_len rfl rfl rfl rfl rfl) ?_
      refine ed yes rfl rfl (dv_bin rfl rfl (bi_eql_t (by decide))) ?_
      refine E_nil ?_
      refine th_norm ?_
      refine AWp_cond (t := true) rfl (fun _ => ?_) nofun
      refine AWp_E rfl ?_
      refine ed (sv la l.length lc) rfl rfl (dv_move rfl) ?_
      refine ed (.agg #[iv ((min x20 x21, max x20 x21).1), iv ((min x20 x21, max x20 x21).2)]) rfl rfl (dv_load rfl (ld_boxA (n := 2) (hS.box 4 rfl) rfl rfl (Nat.le_of_ble_eq_true rfl) rfl)) ?_
      refine S_lit (sz := 2) (enc := encE) (xs := ([(min x20 x21, max x20 x21)] : List (Int × Int))) (n := 1) hS rfl rfl rfl rfl rfl rfl rfl rfl fun a24 H hS => ?_
      refine S_append (k := 2) (bytes := 16) (enc := encE) (xs := l) (ys := ([(min x20 x21, max x20 x21)] : List (Int × Int))) hS rfl rfl rfl rfl rfl rfl rfl rfl rfl rfl (fun _ => rfl) (fun _ => rfl) rfl rfl rfl rfl (hS.sls 5 rfl) (by omega) (by omega) fun a25 c26 x27 H hx28 hn29 hS => ?_
      refine ed (sv a25 x27.length c26) rfl rfl (dv_assign rfl) ?_
      refine E_nil ?_
      refine th_norm ?_
      refine AWp_E rfl ?_
      refine ed (.map (some b2)) rfl rfl (dv_move rfl) ?_
      refine ed (.agg #[iv ((min x20 x21, max x20 x21).1), iv ((min x20 x21, max x20 x21).2)]) rfl rfl (dv_load rfl (ld_boxA (n := 2) (hS.box 4 rfl) rfl rfl (Nat.le_of_ble_eq_true rfl) rfl)) ?_
      refine ed (iv ((i : Nat) : Int)) rfl rfl (dv_move rfl) ?_
      refine S_lit (sz := 1) (enc := encI) (xs := ([((i : Nat) : Int)] : List (Int))) (n := 1) hS rfl rfl rfl rfl rfl rfl rfl rfl fun a30 H hS => ?_
      refine S_mapEntryP (i := 1) (x := (min x20 x21, max x20 x21)) (kvs := kvs) hS rfl rfl rfl rfl rfl pairMap154 rfl rfl (fun hno2 H hS => ?_) (fun j2 q2 hj2 H hS => ?_)
      ·
       have hS := hS.nilRow (e := 2) 3 rfl
       have hS := hS.out (f := rowE1 2) (q := (⟨none, 0, []⟩ : Row)) (qs := (kvs.map (·.2) ++ [(⟨none, 0, []⟩ : Row)])) 3 kvs.length rfl (by simp)
       refine ed (sv none 0 0) rfl rfl (dv_extract rfl rfl) ?_
       have hS := hS.nil encI 2 1
       refine S_append (k := 8) (bytes := 8) (enc := encI) (xs := ([] : List Int)) (ys := ([((i : Nat) : Int)] : List (Int))) hS rfl rfl rfl rfl rfl rfl rfl rfl rfl rfl (fun _ => rfl) (fun _ => rfl) rfl rfl rfl rfl (hS.sls 5 rfl) (by omega) (by omega) fun a31 c32 x33 H hx34 hn35 hS => ?_
       refine ed (iv ((kvs.length : Nat) : Int)) rfl rfl (dv_extract rfl rfl) ?_
       refine S_entryStoreP (i := 1) (j := kvs.length) (x := (min x20 x21, max x20 x21)) (q := (⟨none, 0, []⟩ : Row)) (q' := (⟨a31, c32, x33⟩ : Row)) (kvs := (kvs ++ [((min x20 x21, max x20 x21), (⟨none, 0, []⟩ : Row))])) hS rfl rfl rfl rfl rfl rfl rfl (by simp) fun H hS => ?_
       have hS := hS.into (f := rowE1 2) (q := (⟨a31, c32, x33⟩ : Row)) (qs := (kvs.map (·.2) ++ [(⟨none, 0, []⟩ : Row)])) 7 8 kvs.length rfl rfl rfl (by simp)
       rw [bump_rows _ (min x20 x21, max x20 x21), bump_new] at hS
       obtain ⟨kv', hkv⟩ : ∃ k, k = (kvs ++ [((min x20 x21, max x20 x21), (⟨a31, c32, x33⟩ : Row))]) := ⟨_, rfl⟩
       have hkl : (kvs ++ [((min x20 x21, max x20 x21), (⟨none, 0, []⟩ : Row))]).length = kv'.length := by rw [hkv]; simp
       rw [hkl, ← hkv] at hS
       refine E_nil ?_
       refine bl_norm ?_
       refine th_norm ?_
       refine AWp_E rfl ?_
       refine ed (iv ((k + 1 : Nat) : Int)) rfl rfl (dv_bin rfl rfl (bi_add (by omega))) ?_
       refine ed (iv ((k + 1 : Nat) : Int)) rfl rfl (dv_move rfl) ?_
       refine E_nil ?_
       refine loop_next (I := I13) (3 - (k + 1)) (by rw [hm16]; omega) ?_
       rw [hI13]
       refine ⟨a25, c26, x27, k + 1, kv', rfl, (all_c rfl (all_c rfl (all_c rfl (all_c rfl (all_c rfl (all_c rfl (all_c rfl (all_c rfl (all_c rfl (all_c rfl (all_c rfl (all_c rfl (all_c rfl (all_c rfl (all_c rfl (all_c rfl (all_c rfl (all_c rfl (all_c rfl all_n))))))))))))))))))), (hS.pick [0, 1, 2, 7] rfl), ?_, ?_, ?_⟩
       · omega
       · have hpk : (pairsAt x11.xs i).take (k + 1) = (pairsAt x11.xs i).take k ++ [((min x20 x21, max x20 x21), (i : Int))] := take_step (by unfold pairsAt; rw [List.getElem?_map, rowE_get (by omega) hx20 hx21]; rfl)
         rw [hpk, ← List.append_assoc, hkv]
         exact hI2.new hno2 hx34
       · rw [hx28, hkv, hl2, List.map_append]; rfl
      ·
       exact absurd hj2 (hno j2 q2)
     ·
      have hqv := hI2.val j _ qj hj
      have hqp : 0 < qj.xs.length := List.length_pos_iff.2 (hqv.1 ▸ hqv.2)
      refine ed (iv ((qj.xs.length : Nat) : Int)) rfl rfl (dv_len rfl rfl rfl rfl rfl) ?_
      rcases Decidable.em (((qj.xs.length : Nat) : Int) = 0) with hc36 | hc36
      ·
       exfalso; omega
      ·
       refine ed no rfl rfl (dv_bin rfl rfl (bi_eql_f hc36)) ?_
       refine E_nil ?_
       refine th_norm ?_
       refine AWp_cond (t := false) rfl nofun (fun _ => ?_)
       refine AWp_skip ?_
       refine th_norm ?_
       refine AWp_E rfl ?_
       refine ed (.map (some b2)) rfl rfl (dv_move rfl) ?_
       refine ed (.agg #[iv ((min x20 x21, max x20 x21).1), iv ((min x20 x21, max x20 x21).2)]) rfl rfl (dv_load rfl (ld_boxA (n := 2) (hS.box 4 rfl) rfl rfl (Nat.le_of_ble_eq_true rfl) rfl)) ?_
       refine ed (iv ((i : Nat) : Int)) rfl rfl (dv_move rfl) ?_
       refine S_lit (sz := 1) (enc := encI) (xs := ([((i : Nat) : Int)] : List (Int))) (n := 1) hS rfl rfl rfl rfl rfl rfl rfl rfl fun a37 H hS => ?_
       refine S_mapEntryP (i := 1) (x := (min x20 x21, max x20 x21)) (kvs := kvs) hS rfl rfl rfl rfl rfl pairMap154 rfl rfl (fun hno2 H hS => ?_) (fun j2 q2 hj2 H hS => ?_)
       ·
        exact absurd hj (hno2 j qj)
       ·
        have hS := hS.out (f := rowE1 2) (q := q2) (qs := (kvs.map (·.2))) 3 j2 rfl (by rw [List.getElem?_map, hj2]; rfl)
        have hq2 := (hI2.val j2 _ q2 hj2).1
        have hq2l : q2.xs.length ≤ 400 := by rw [hq2]; refine Nat.le_trans (tv_le _ _) ?_; rw [List.length_append, hpl, List.length_take]; omega
        refine ed (sv q2.a q2.xs.length q2.c) rfl rfl (dv_extract rfl rfl) ?_
        refine S_append (k := 5) (bytes := 8) (enc := encI) (xs := q2.xs) (ys := ([((i : Nat) : Int)] : List (Int))) hS rfl rfl rfl rfl rfl rfl rfl rfl rfl rfl (fun _ => rfl) (fun _ => rfl) rfl rfl rfl rfl (hS.sls 4 rfl) (by omega) (by omega) fun a38 c39 x40 H hx41 hn42 hS => ?_
        refine ed (iv ((j2 : Nat) : Int)) rfl rfl (dv_extract rfl rfl) ?_
        refine S_entryStoreP (i := 1) (j := j2) (x := (min x20 x21, max x20 x21)) (q := q2) (q' := (⟨a38, c39, x40⟩ : Row)) (kvs := kvs) hS rfl rfl rfl rfl rfl rfl rfl hj2 fun H hS => ?_
        have hS := hS.into (f := rowE1 2) (q := (⟨a38, c39, x40⟩ : Row)) (qs := (kvs.map (·.2))) 6 5 j2 rfl rfl rfl (by simp; exact get_lt hj2)
        rw [bump_old _ _ (min x20 x21, max x20 x21)] at hS
        obtain ⟨kv', hkv⟩ : ∃ k, k = (kvs.set j2 ((min x20 x21, max x20 x21), (⟨a38, c39, x40⟩ : Row))) := ⟨_, rfl⟩
        have hkl : kvs.length = kv'.length := by rw [hkv]; simp
        rw [hkl, ← hkv] at hS
        refine E_nil ?_
        refine bl_norm ?_
        refine th_norm ?_
        refine AWp_E rfl ?_
        refine ed (iv ((k + 1 : Nat) : Int)) rfl rfl (dv_bin rfl rfl (bi_add (by omega))) ?_
        refine ed (iv ((k + 1 : Nat) : Int)) rfl rfl (dv_move rfl) ?_
        refine E_nil ?_
        refine loop_next (I := I13) (3 - (k + 1)) (by rw [hm16]; omega) ?_
        rw [hI13]
        refine ⟨la, lc, l, k + 1, kv', rfl, (all_c rfl (all_c rfl (all_c rfl (all_c rfl (all_c rfl (all_c rfl (all_c rfl (all_c rfl (all_c rfl (all_c rfl (all_c rfl (all_c rfl (all_c rfl (all_c rfl (all_c rfl (all_c rfl (all_c rfl (all_c rfl (all_c rfl all_n))))))))))))))))))), (hS.pick [0, 1, 2, 5] rfl), ?_, ?_, ?_⟩
        · omega
        · have hpk : (pairsAt x11.xs i).take (k + 1) = (pairsAt x11.xs i).take k ++ [((min x20 x21, max x20 x21), (i : Int))] := take_step (by unfold pairsAt; rw [List.getElem?_map, rowE_get (by omega) hx20 hx21]; rfl)
          rw [hpk, ← List.append_assoc, hkv]
          exact hI2.more hj2 hx41
        · rw [hkv, bump_keys _ hj2]; exact hl2
    ·
     refine ed no rfl rfl (dv_bin rfl rfl (bi_lss_f hc19)) ?_
     refine E_nil ?_
     refine th_norm ?_
     refine AWp_seq ?_
     refine AWp_cond (t := false) rfl nofun (fun _ => ?_)
     refine AWp_exit (th_exit (th_exit (bl_exit (?_))))
     refine bl_norm ?_
     refine th_norm ?_
     refine AWp_E rfl ?_
     refine ed (iv ((i + 1 : Nat) : Int)) rfl rfl (dv_bin rfl rfl (bi_add (by omega))) ?_
     refine ed (iv ((i + 1 : Nat) : Int)) rfl rfl (dv_move rfl) ?_
     refine E_nil ?_
     refine loop_next (I := I4) (m.tn - (i + 1)) (by rw [hm7]; omega) ?_
     rw [hI4]
     refine ⟨la, lc, l, i + 1, kvs, rfl, (all_c rfl (all_c rfl (all_c rfl (all_c rfl (all_c rfl (all_c rfl (all_c rfl (all_c rfl (all_c rfl (all_c rfl (all_c rfl (all_c rfl all_n)))))))))))), hS, ?_, ?_, ?_, ?_⟩
     · omega
     · have hk3 : k = 3 := by omega
       rw [pairs_step (map_get (f := Row.xs) hx11)]
       rw [hk3, List.take_of_length_le (l := pairsAt x11.xs i) (by simp [pairsAt, rowE_len])] at hI2; exact hI2
     · exact hl2
     · omega
  ·
   refine ed no rfl rfl (dv_bin rfl rfl (bi_lss_f hc10)) ?_
   refine E_nil ?_
   refine th_norm ?_
   refine AWp_seq ?_
   refine AWp_cond (t := false) rfl nofun (fun _ => ?_)
   refine AWp_exit (th_exit (th_exit (bl_exit (?_))))
   refine th_norm ?_
   refine AWp_seq ?_
   refine AWp_E rfl ?_
   refine ed (sv la l.length lc) rfl rfl (dv_move rfl) ?_
   obtain ⟨Hy, hKy, _, hN, hQ⟩ := hS.split [2] rfl
   have hY := hQ [] _ (SepL.refl Hy)
   refine E_call (vs := [sv la l.length lc, .func (.func 153) #[] #[]]) rfl rfl rfl rfl rfl rfl rfl (sortEdges_ok la l.length lc l _ _ rfl (by omega) hN) ?_
   rintro _ H ⟨y43, h44, h45, rfl, hP⟩
   have hlh44 := congrArg List.length h44
   have hS : SepL _ [box b1 [sv m.pa m.pn m.pc, sv m.ta m.tn m.tc] 39, mapE b2 (mkes kvs) kvs.length, rowsE 2 (kvs.map (·.2)), sl encE 159 2 la lc y43] H := hQ _ _ hP
   refine E_nil ?_
   refine th_norm ?_
   refine AWp_seq ?_
   refine AWp_E rfl ?_
   refine ed (.map (some b2)) rfl rfl (dv_move rfl) ?_
   refine ed (sv la l.length lc) rfl rfl (dv_move rfl) ?_
   refine ed (.map (some b2)) rfl rfl (dv_assign rfl) ?_
   refine ed (sv la l.length lc) rfl rfl (dv_assign rfl) ?_
   refine E_nil ?_
   refine th_norm ?_
   refine AWp_ret (?_)
   refine ret_of ?_
   refine readsRes_of (rs := [.tmp 2, .tmp 3]) (vs := [.map (some b2), sv la l.length lc]) rfl (re_cons (re_tmp rfl) (re_cons (re_tmp rfl) (re_nil))) rfl ?_
   have hii : (rxs m.ts).take i = rxs m.ts := List.take_of_length_le (by rw [rxs, List.length_map]; omega)
   rw [hii] at hI
   refine ⟨kvs, b2, la, l.length, lc, y43, ?_, ?_, h45, rfl, hS.pick [1, 2, 3] rfl⟩
   · exact hI
   · rw [h44, hl]; exact sort_edges hI hm0.2.2
end Go.Ab

set_option maxRecDepth 100000
set_option maxHeartbeats 4000000
namespace Go.Ab
open Go.Proofs
theorem l02Edges_ok (m_p m_o : Nat) (m : LM) (H : AH) (hmpv : PV H m_p m_o m.v) (hm : m.ok H) (hm0 : meshP m.ps.length (rxs m.ts)) : ACalls Tryz.prog 142 [pt m_p m_o] H
  (fun r H' => ∃ (x_a : Option Addr), ∃ (x_n : Nat), ∃ (x_c : Nat), ∃ (x_ : List Row), rxs x_ = (edgeList m.ps.length (rxs m.ts)).map pairL ∧ x_.length = x_n ∧ (∀ q ∈ x_, q.xs.length ≤ 1048576) ∧ r = sv x_a x_n x_c ∧ SepL H [sl encR 53 1 x_a x_c x_, rowsE 2 x_] H') := by
 refine ACalls_of Tryz.func142 rfl (Nat.le_of_ble_eq_true rfl) ?_
 obtain ⟨H0, hH0⟩ : ∃ H0, H0 = H := ⟨_, rfl⟩
 have hS : SepL H0 [] H := hH0 ▸ SepL.refl H
 subst hH0
 obtain ⟨⟨hm_ps, hm_pn, hm_pb⟩, hm_ts, hm_tn, hm_tb⟩ := id hm
 have hmm : meshP m.pn (rxs m.ts) := hm_pn ▸ hm0
 have hple : m.pn ≤ 64 := hmm.1
 have hnn : m.pn * m.pn ≤ 64 * 64 := Nat.mul_le_mul hmm.1 hmm.1
 refine AWp_seq ?_
 refine AWp_E rfl ?_
 refine ed (sv none 0 0) rfl rfl (dv_assign rfl) ?_
 refine E_nil ?_
 refine th_norm ?_
 refine AWp_seq ?_
 refine AWp_E rfl ?_
 refine ed (pt m_p m_o) rfl rfl (dv_move rfl) ?_
 refine ed (pt m_p m_o) rfl rfl (dv_nilCheck rfl) ?_
 refine ed (pt m_p m_o) rfl rfl (dv_fieldAddr rfl rfl) ?_
 refine ed (sv m.pa m.pn m.pc) rfl rfl (dv_load rfl (ld_pv (off := 0) (hmpv.keep hS.keep) rfl rfl rfl)) ?_
 refine ed (iv ((m.pn : Nat) : Int)) rfl rfl (dv_len rfl rfl rfl rfl rfl) ?_
 refine ed (iv ((m.pn : Nat) : Int)) rfl rfl (dv_assign rfl) ?_
 refine E_nil ?_
 refine th_norm ?_
 refine AWp_seq ?_
 refine AWp_E rfl ?_
 refine ed (iv ((m.pn : Nat) : Int)) rfl rfl (dv_move rfl) ?_
 refine ed (iv ((m.pn : Nat) : Int)) rfl rfl (dv_move rfl) ?_
 refine ed (iv ((m.pn * m.pn : Nat) : Int)) rfl rfl (dv_bin rfl rfl (bi_mul (by omega))) ?_
 refine S_make (sz := 1) (enc := encB) (z := false) hS rfl rfl rfl (dn_make (nb := 1) (n := m.pn * m.pn) (zs := [no]) rfl rfl rfl rfl rfl rfl rfl (by omega) (by omega)) rfl rfl (by unfold maxLen; omega) fun a1 x2 H hx3 hn4 hS => ?_
 refine ed (sv a1 (m.pn * m.pn) (m.pn * m.pn)) rfl rfl (dv_assign rfl) ?_
 refine E_nil ?_
 refine th_norm ?_
 refine AWp_seq ?_
 refine AWp_seq ?_
 refine AWp_E rfl ?_
 refine ed (iv 0) rfl rfl (dv_assign rfl) ?_
 refine E_nil ?_
 refine th_norm ?_
 refine AWp_block ?_
 obtain ⟨I5, hI5⟩ : ∃ I : Nat → Env → AH → Prop, ∀ m_ e_ Hl, I m_ e_ Hl = (∃ (i : Nat) (o : List (Bool)), m_ = m.tn - i ∧ AllE [(0, pt m_p m_o), (2, sv none 0 0), (3, iv ((m.pn : Nat) : Int)), (4, sv a1 (m.pn * m.pn) (m.pn * m.pn)), (5, iv ((i : Nat) : Int)), (13, pt m_p m_o), (14, pt m_p m_o), (15, pt m_p m_o), (16, sv m.pa m.pn m.pc), (17, iv ((m.pn : Nat) : Int)), (18, iv ((m.pn : Nat) : Int)), (19, iv ((m.pn : Nat) : Int)), (20, iv ((m.pn * m.pn : Nat) : Int)), (21, sv a1 (m.pn * m.pn) (m.pn * m.pn))] e_ ∧ SepL H0 [sl encB 4 1 a1 (m.pn * m.pn) o] Hl ∧ o.length = m.pn * m.pn ∧ (i ≤ m.tn) ∧ (Seen m.pn (allE ((rxs m.ts).take i)) o)) := ⟨_, fun _ _ _ => rfl⟩
 refine AWp_loop I5 (m.tn - (0)) ?_ ?_
 ·
  rw [hI5]
  refine ⟨0, x2, rfl, (all_c rfl (all_c rfl (all_c rfl (all_c rfl (all_c rfl (all_c rfl (all_c rfl (all_c rfl (all_c rfl (all_c rfl (all_c rfl (all_c rfl (all_c rfl (all_c rfl all_n)))))))))))))), hS, hn4, ?_, ?_⟩
  · omega
  · rw [hx3]; exact Seen.start _
 ·
  intro m6 _ H hl7
  rw [hI5] at hl7
  obtain ⟨i, o, hm8, he9, hS, ho_n, hi, hseen⟩ := hl7
  obtain ⟨e10, rfl⟩ := he9.ex
  refine AWp_seq ?_
  refine AWp_seq ?_
  refine AWp_E rfl ?_
  refine ed (iv ((i : Nat) : Int)) rfl rfl (dv_move rfl) ?_
  refine ed (pt m_p m_o) rfl rfl (dv_move rfl) ?_
  refine ed (pt m_p m_o) rfl rfl (dv_nilCheck rfl) ?_
  refine ed (pt m_p (m_o + 1)) rfl rfl (dv_fieldAddr rfl rfl) ?_
  refine ed (sv m.ta m.tn m.tc) rfl rfl (dv_load rfl (ld_pv (off := 1) (hmpv.keep hS.keep) rfl rfl rfl)) ?_
  refine ed (iv ((m.tn : Nat) : Int)) rfl rfl (dv_len rfl rfl rfl rfl rfl) ?_
  rcases Decidable.em (((i : Nat) : Int) < ((m.tn : Nat) : Int)) with hc11 | hc11
  ·
   refine ed yes rfl rfl (dv_bin rfl rfl (bi_lss_t hc11)) ?_
   refine E_nil ?_
   refine th_norm ?_
   refine AWp_cond (t := true) rfl (fun _ => ?_) nofun
   refine AWp_skip ?_
   refine th_norm ?_
   refine AWp_seq ?_
   refine AWp_block ?_
   refine AWp_seq ?_
   refine AWp_E rfl ?_
   refine ed (pt m_p m_o) rfl rfl (dv_move rfl) ?_
   refine ed (pt m_p m_o) rfl rfl (dv_nilCheck rfl) ?_
   refine ed (pt m_p (m_o + 1)) rfl rfl (dv_fieldAddr rfl rfl) ?_
   refine ed (sv m.ta m.tn m.tc) rfl rfl (dv_load rfl (ld_pv (off := 1) (hmpv.keep hS.keep) rfl rfl rfl)) ?_
   refine ed (iv ((i : Nat) : Int)) rfl rfl (dv_move rfl) ?_
   obtain ⟨x12, hx12⟩ := get_el (xs := m.ts) (i := i) (by omega)
   have hv13 := hm_ts.el hx12
   have hv13l := hv13.2
   have hx3 := (meshP_row hmm hx12).1
   refine ed (sp m.ta (i * 1)) rfl rfl (dv_indexAddr (a := sv m.ta m.tn m.tc) (b := iv ((i : Nat) : Int)) rfl rfl (ix_sls (n := m.tn) (i := i) (hm_ts.1.keep hS.keep) hx12 rfl rfl rfl (by omega))) ?_
   refine ed (sv x12.a x12.xs.length x12.c) rfl rfl (dv_load rfl (ld_sls (sz := 1) (off := 0) (hm_ts.1.keep hS.keep) hx12 (fun _ => rfl) rfl rfl rfl)) ?_
   refine ed (sv x12.a x12.xs.length x12.c) rfl rfl (dv_assign rfl) ?_
   refine E_nil ?_
   refine th_norm ?_
   refine AWp_seq ?_
   refine AWp_E rfl ?_
   refine ed (iv 0) rfl rfl (dv_assign rfl) ?_
   refine E_nil ?_
   refine th_norm ?_
   refine AWp_block ?_
   obtain ⟨I14, hI14⟩ : ∃ I : Nat → Env → AH → Prop, ∀ m_ e_ Hl, I m_ e_ Hl = (∃ (k : Nat) (o : List (Bool)), m_ = 3 - k ∧ AllE [(0, pt m_p m_o), (2, sv none 0 0), (3, iv ((m.pn : Nat) : Int)), (4, sv a1 (m.pn * m.pn) (m.pn * m.pn)), (5, iv ((i : Nat) : Int)), (6, sv x12.a x12.xs.length x12.c), (7, iv ((k : Nat) : Int)), (13, pt m_p m_o), (14, pt m_p m_o), (15, pt m_p m_o), (16, sv m.pa m.pn m.pc), (17, iv ((m.pn : Nat) : Int)), (18, iv ((m.pn : Nat) : Int)), (19, iv ((m.pn : Nat) : Int)), (20, iv ((m.pn * m.pn : Nat) : Int)), (21, sv a1 (m.pn * m.pn) (m.pn * m.pn)), (22, iv ((i : Nat) : Int)), (23, pt m_p m_o), (24, pt m_p m_o), (25, pt m_p (m_o + 1)), (26, sv m.ta m.tn m.tc), (27, iv ((m.tn : Nat) : Int)), (28, yes), (31, pt m_p m_o), (32, pt m_p m_o), (33, pt m_p (m_o + 1)), (34, sv m.ta m.tn m.tc), (35, iv ((i : Nat) : Int)), (36, sp m.ta (i * 1)), (37, sv x12.a x12.xs.length x12.c)] e_ ∧ SepL H0 [sl encB 4 1 a1 (m.pn * m.pn) o] Hl ∧ o.length = m.pn * m.pn ∧ (k ≤ 3) ∧ (Seen m.pn (allE ((rxs m.ts).take i) ++ (rowE x12.xs).take k) o)) := ⟨_, fun _ _ _ => rfl⟩
   refine AWp_loop I14 (3 - (0)) ?_ ?_
   ·
    rw [hI14]
    refine ⟨0, o, rfl, (all_c rfl (all_c rfl (all_c rfl (all_c rfl (all_c rfl (all_c rfl (all_c rfl (all_c rfl (all_c rfl (all_c rfl (all_c rfl (all_c rfl (all_c rfl (all_c rfl (all_c rfl (all_c rfl (all_c rfl (all_c rfl (all_c rfl (all_c rfl (all_c rfl (all_c rfl (all_c rfl (all_c rfl (all_c rfl (all_c rfl (all_c rfl (all_c rfl (all_c rfl (all_c rfl all_n)))))))))))))))))))))))))))))), hS, ho_n, ?_, ?_⟩
    · omega
    · simpa using hseen
   ·
    intro m15 _ H hl16
    rw [hI14] at hl16
    obtain ⟨k, o, hm17, he18, hS, ho_n, hk, hseen2⟩ := hl16
    obtain ⟨e19, rfl⟩ := he18.ex
    refine AWp_seq ?_
    refine AWp_seq ?_
    refine AWp_E rfl ?_
    refine ed (iv ((k : Nat) : Int)) rfl rfl (dv_move rfl) ?_
    rcases Decidable.em (((k : Nat) : Int) < 3) with hc20 | hc20
    ·
     refine ed yes rfl rfl (dv_bin rfl rfl (bi_lss_t hc20)) ?_
     refine E_nil ?_
     refine th_norm ?_
     refine AWp_cond (t := true) rfl (fun _ => ?_) nofun
     refine AWp_skip ?_
     refine th_norm ?_
     refine AWp_seq ?_
     refine AWp_block ?_
     refine AWp_seq ?_
     refine AWp_E rfl ?_
     refine ed (sv x12.a x12.xs.length x12.c) rfl rfl (dv_move rfl) ?_
     refine ed (iv ((k : Nat) : Int)) rfl rfl (dv_move rfl) ?_
     obtain ⟨x21, hx21⟩ := get_el (xs := x12.xs) (i := k) (by omega)
     refine ed (sp x12.a (k * 1)) rfl rfl (dv_indexAddr (a := sv x12.a x12.xs.length x12.c) (b := iv ((k : Nat) : Int)) rfl rfl (ix_sls (n := x12.xs.length) (i := k) (hv13.1.keep hS.keep) hx21 rfl rfl rfl (get_lt hx21))) ?_
     refine ed (iv x21) rfl rfl (dv_load rfl (ld_sls (sz := 1) (off := 0) (hv13.1.keep hS.keep) hx21 (fun _ => rfl) rfl rfl rfl)) ?_
     refine ed (iv x21) rfl rfl (dv_assign rfl) ?_
     refine E_nil ?_
     refine th_norm ?_
     refine AWp_seq ?_
     refine AWp_E rfl ?_
     refine ed (sv x12.a x12.xs.length x12.c) rfl rfl (dv_move rfl) ?_
     refine ed (iv ((k : Nat) : Int)) rfl rfl (dv_move rfl) ?_
     refine ed (iv ((k + 1 : Nat) : Int)) rfl rfl (dv_bin rfl rfl (bi_add (by omega))) ?_
     refine ed (iv (((k + 1) % 3 : Nat) : Int)) rfl rfl (dv_bin rfl rfl (bi_rem (by decide))) ?_
     obtain ⟨x22, hx22⟩ := get_el (xs := x12.xs) (i := (k + 1) % 3) (by omega)
     refine ed (sp x12.a (((k + 1) % 3) * 1)) rfl rfl (dv_indexAddr (a := sv x12.a x12.xs.length x12.c) (b := iv (((k + 1) % 3 : Nat) : Int)) rfl rfl (ix_sls (n := x12.xs.length) (i := ((k + 1) % 3)) (hv13.1.keep hS.keep) hx22 rfl rfl rfl (get_lt hx22))) ?_
     refine ed (iv x22) rfl rfl (dv_load rfl (ld_sls (sz := 1) (off := 0) (hv13.1.keep hS.keep) hx22 (fun _ => rfl) rfl rfl rfl)) ?_
     refine ed (iv x22) rfl rfl (dv_assign rfl) ?_
     refine E_nil ?_
     refine th_norm ?_
     refine AWp_E rfl ?_
     refine ed (sv a1 (m.pn * m.pn) (m.pn * m.pn)) rfl rfl (dv_move rfl) ?_
     refine ed (iv x21) rfl rfl (dv_move rfl) ?_
     refine ed (iv x22) rfl rfl (dv_move rfl) ?_
     refine E_call (vs := [iv x21, iv x22]) rfl rfl rfl rfl rfl rfl rfl (l00Min_ok x21 x22 _) ?_
     rintro _ H ⟨v23, rfl, rfl, hQ⟩
     have hS := hS.up hQ.keep
     refine ed (iv ((m.pn : Nat) : Int)) rfl rfl (dv_move rfl) ?_
     have hrx := triP_get (meshP_row hmm hx12) hx21
     unfold inP at hrx
     have hry := triP_get (meshP_row hmm hx12) hx22
     unfold inP at hry
     have hix := idx_in (p := min x21 x22) (q := max x21 x22) (n := (m.pn : Int)) (by omega) (by omega)
     have hol2 := hseen2.1
     refine ed (iv ((min x21 x22) * ((m.pn : Nat) : Int))) rfl rfl (dv_bin rfl rfl (bi_mul (by omega))) ?_
     refine ed (iv x21) rfl rfl (dv_move rfl) ?_
     refine ed (iv x22) rfl rfl (dv_move rfl) ?_
     refine E_call (vs := [iv x21, iv x22]) rfl rfl rfl rfl rfl rfl rfl (l00Max_ok x21 x22 _) ?_
     rintro _ H ⟨v24, rfl, rfl, hQ⟩
     have hS := hS.up hQ.keep
     refine ed (iv (((min x21 x22) * ((m.pn : Nat) : Int)) + (max x21 x22))) rfl rfl (dv_bin rfl rfl (bi_add (by omega))) ?_
     obtain ⟨x25, hx25⟩ := get_el (xs := o) (i := (((min x21 x22) * ((m.pn : Nat) : Int)) + (max x21 x22)).toNat) (by omega)
     refine ed (sp a1 (((((min x21 x22) * ((m.pn : Nat) : Int)) + (max x21 x22)).toNat) * 1)) rfl rfl (dv_indexAddr (a := sv a1 (m.pn * m.pn) (m.pn * m.pn)) (b := iv (((min x21 x22) * ((m.pn : Nat) : Int)) + (max x21 x22))) rfl rfl (ix_sls (n := (m.pn * m.pn)) (i := ((((min x21 x22) * ((m.pn : Nat) : Int)) + (max x21 x22)).toNat)) (hS.sls 0 rfl) hx25 rfl rfl (by omega) (by omega))) ?_
     refine S_storeS (k := 0) (i := ((((min x21 x22) * ((m.pn : Nat) : Int)) + (max x21 x22)).toNat)) (z' := true) (off := 0) (yv := yes) hS rfl rfl rfl rfl (fun _ => rfl) rfl rfl rfl hx25 rfl rfl rfl rfl fun H hS => ?_
     have hx26 := set_get (z := true) hx25
     refine E_nil ?_
     refine bl_norm ?_
     refine th_norm ?_
     refine AWp_E rfl ?_
     refine ed (iv ((k : Nat) : Int)) rfl rfl (dv_move rfl) ?_
     refine ed (iv ((k + 1 : Nat) : Int)) rfl rfl (dv_bin rfl rfl (bi_add (by omega))) ?_
     refine ed (iv ((k + 1 : Nat) : Int)) rfl rfl (dv_assign rfl) ?_
     refine E_nil ?_
     refine loop_next (I := I14) (3 - (k + 1)) (by rw [hm17]; omega) ?_
     rw [hI14]
     refine ⟨k + 1, o.set ((((min x21 x22) * ((m.pn : Nat) : Int)) + (max x21 x22)).toNat) true, rfl, (all_c rfl (all_c rfl (all_c rfl (all_c rfl (all_c rfl (all_c rfl (all_c rfl (all_c rfl (all_c rfl (all_c rfl (all_c rfl (all_c rfl (all_c rfl (all_c rfl (all_c rfl (all_c rfl (all_c rfl (all_c rfl (all_c rfl (all_c rfl (all_c rfl (all_c rfl (all_c rfl (all_c rfl (all_c rfl (all_c rfl (all_c rfl (all_c rfl (all_c rfl (all_c rfl all_n)))))))))))))))))))))))))))))), hS, (by rw [List.length_set]; exact ho_n), ?_, ?_⟩
     · omega
     · have hts := take_step (rowE_get (by omega) hx21 hx22)
       rw [hts, ← List.append_assoc]; exact hseen2.step (by omega) (by omega)
    ·
     refine ed no rfl rfl (dv_bin rfl rfl (bi_lss_f hc20)) ?_
     refine E_nil ?_
     refine th_norm ?_
     refine AWp_cond (t := false) rfl nofun (fun _ => ?_)
     refine AWp_exit (th_exit (th_exit (bl_exit (?_))))
     refine bl_norm ?_
     refine th_norm ?_
     refine AWp_E rfl ?_
     refine ed (iv ((i : Nat) : Int)) rfl rfl (dv_move rfl) ?_
     refine ed (iv ((i + 1 : Nat) : Int)) rfl rfl (dv_bin rfl rfl (bi_add (by omega))) ?_
     refine ed (iv ((i + 1 : Nat) : Int)) rfl rfl (dv_assign rfl) ?_
     refine E_nil ?_
     refine loop_next (I := I5) (m.tn - (i + 1)) (by rw [hm8]; omega) ?_
     rw [hI5]
     refine ⟨i + 1, o, rfl, (all_c rfl (all_c rfl (all_c rfl (all_c rfl (all_c rfl (all_c rfl (all_c rfl (all_c rfl (all_c rfl (all_c rfl (all_c rfl (all_c rfl (all_c rfl (all_c rfl all_n)))))))))))))), hS, ho_n, ?_, ?_⟩
     · omega
     · have hk3 : k = 3 := by omega
       rw [take_step (map_get (f := Row.xs) hx12)]; rw [hk3, show ∀ t, (rowE t).take 3 = rowE t from fun _ => rfl] at hseen2; unfold allE at hseen2 ⊢; rw [List.flatMap_append]; simpa using hseen2
  ·
   refine ed no rfl rfl (dv_bin rfl rfl (bi_lss_f hc11)) ?_
   refine E_nil ?_
   refine th_norm ?_
   refine AWp_cond (t := false) rfl nofun (fun _ => ?_)
   refine AWp_exit (th_exit (th_exit (bl_exit (?_))))
   refine th_norm ?_
   refine AWp_seq ?_
   refine AWp_E rfl ?_
   refine S_lit (sz := 1) (enc := encR) (xs := ([] : List Row)) (n := 0) hS rfl rfl rfl rfl rfl rfl rfl rfl fun a27 H hS => ?_
   refine ed (sv a27 0 0) rfl rfl (dv_assign rfl) ?_
   refine E_nil ?_
   refine th_norm ?_
   refine AWp_seq ?_
   refine AWp_seq ?_
   refine AWp_E rfl ?_
   refine ed (iv 0) rfl rfl (dv_assign rfl) ?_
   refine E_nil ?_
   refine th_norm ?_
   refine AWp_block ?_
   have hS := hS.zero (rowE1 2)
   obtain ⟨I28, hI28⟩ : ∃ I : Nat → Env → AH → Prop, ∀ m_ e_ Hl, I m_ e_ Hl = (∃ (wa : Option Addr) (wc : Nat) (w : List (Row)) (a : Nat), m_ = m.pn - a ∧ AllE [(0, pt m_p m_o), (2, sv none 0 0), (3, iv ((m.pn : Nat) : Int)), (4, sv a1 (m.pn * m.pn) (m.pn * m.pn)), (5, iv ((i : Nat) : Int)), (10, sv wa w.length wc), (11, iv ((a : Nat) : Int)), (13, pt m_p m_o), (14, pt m_p m_o), (15, pt m_p m_o), (16, sv m.pa m.pn m.pc), (17, iv ((m.pn : Nat) : Int)), (18, iv ((m.pn : Nat) : Int)), (19, iv ((m.pn : Nat) : Int)), (20, iv ((m.pn * m.pn : Nat) : Int)), (21, sv a1 (m.pn * m.pn) (m.pn * m.pn)), (22, iv ((i : Nat) : Int)), (23, pt m_p m_o), (24, pt m_p m_o), (25, pt m_p (m_o + 1)), (26, sv m.ta m.tn m.tc), (27, iv ((m.tn : Nat) : Int)), (28, no), (63, sv a27 0 0)] e_ ∧ SepL H0 [sl encB 4 1 a1 (m.pn * m.pn) o, sl encR 53 1 wa wc w, rowsE 2 w] Hl ∧ (a ≤ m.pn) ∧ (Seen m.pn (allE (rxs m.ts)) o) ∧ (rxs w = ((List.range a).flatMap fun a => edgesFrom (allE (rxs m.ts)) a (a + 1) m.pn).map pairL) ∧ (∀ q ∈ w, q.xs.length ≤ 1048576)) := ⟨_, fun _ _ _ => rfl⟩
   refine AWp_loop I28 (m.pn - (0)) ?_ ?_
   ·
    rw [hI28]
    refine ⟨a27, 0, ([] : List Row), 0, rfl, (all_c rfl (all_c rfl (all_c rfl (all_c rfl (all_c rfl (all_c rfl (all_c rfl (all_c rfl (all_c rfl (all_c rfl (all_c rfl (all_c rfl (all_c rfl (all_c rfl (all_c rfl (all_c rfl (all_c rfl (all_c rfl (all_c rfl (all_c rfl (all_c rfl (all_c rfl (all_c rfl (all_c rfl all_n)))))))))))))))))))))))), hS, ?_, ?_, ?_, ?_⟩
    · omega
    · have hit : (rxs m.ts).take i = rxs m.ts := List.take_of_length_le (by rw [rxs, List.length_map]; omega); rwa [hit] at hseen
    · rfl
    · simp
   ·
    intro m29 _ H hl30
    rw [hI28] at hl30
    obtain ⟨wa, wc, w, a, hm31, he32, hS, ha, hseen, hw, hwl⟩ := hl30
    obtain ⟨e33, rfl⟩ := he32.ex
    refine AWp_seq ?_
    refine AWp_seq ?_
    refine AWp_E rfl ?_
    refine ed (iv ((a : Nat) : Int)) rfl rfl (dv_move rfl) ?_
    refine ed (iv ((m.pn : Nat) : Int)) rfl rfl (dv_move rfl) ?_
    rcases Decidable.em (((a : Nat) : Int) < ((m.pn : Nat) : Int)) with hc34 | hc34
    ·
     refine ed yes rfl rfl (dv_bin rfl rfl (bi_lss_t hc34)) ?_
     refine E_nil ?_
     refine th_norm ?_
     refine AWp_cond (t := true) rfl (fun _ => ?_) nofun
     refine AWp_skip ?_
     refine th_norm ?_
     refine AWp_seq ?_
     refine AWp_block ?_
     refine AWp_seq ?_
     refine AWp_E rfl ?_
     refine ed (iv ((a : Nat) : Int)) rfl rfl (dv_move rfl) ?_
     refine ed (iv ((a + 1 : Nat) : Int)) rfl rfl (dv_bin rfl rfl (bi_add (by omega))) ?_
     refine ed (iv ((a + 1 : Nat) : Int)) rfl rfl (dv_assign rfl) ?_
     refine E_nil ?_
     refine th_norm ?_
     refine AWp_block ?_
     obtain ⟨I35, hI35⟩ : ∃ I : Nat → Env → AH → Prop, ∀ m_ e_ Hl, I m_ e_ Hl = (∃ (va : Option Addr) (vc : Nat) (v : List (Row)) (b : Nat), m_ = m.pn - b ∧ AllE [(0, pt m_p m_o), (2, sv none 0 0), (3, iv ((m.pn : Nat) : Int)), (4, sv a1 (m.pn * m.pn) (m.pn * m.pn)), (5, iv ((i : Nat) : Int)), (10, sv va v.length vc), (11, iv ((a : Nat) : Int)), (12, iv ((b : Nat) : Int)), (13, pt m_p m_o), (14, pt m_p m_o), (15, pt m_p m_o), (16, sv m.pa m.pn m.pc), (17, iv ((m.pn : Nat) : Int)), (18, iv ((m.pn : Nat) : Int)), (19, iv ((m.pn : Nat) : Int)), (20, iv ((m.pn * m.pn : Nat) : Int)), (21, sv a1 (m.pn * m.pn) (m.pn * m.pn)), (22, iv ((i : Nat) : Int)), (23, pt m_p m_o), (24, pt m_p m_o), (25, pt m_p (m_o + 1)), (26, sv m.ta m.tn m.tc), (27, iv ((m.tn : Nat) : Int)), (28, no), (63, sv a27 0 0), (64, iv ((a : Nat) : Int)), (65, iv ((m.pn : Nat) : Int)), (66, yes), (69, iv ((a : Nat) : Int)), (70, iv ((a + 1 : Nat) : Int))] e_ ∧ SepL H0 [sl encB 4 1 a1 (m.pn * m.pn) o, sl encR 53 1 va vc v, rowsE 2 v] Hl ∧ (a + 1 ≤ b ∧ b ≤ m.pn) ∧ (rxs v ++ (edgesFrom (allE (rxs m.ts)) a b m.pn).map pairL = ((List.range a).flatMap fun a => edgesFrom (allE (rxs m.ts)) a (a + 1) m.pn).map pairL ++ (edgesFrom (allE (rxs m.ts)) a (a + 1) m.pn).map pairL) ∧ (∀ q ∈ v, q.xs.length ≤ 1048576)) := ⟨_, fun _ _ _ => rfl⟩
     refine AWp_loop I35 (m.pn - (a + 1)) ?_ ?_
     ·
      rw [hI35]
      refine ⟨wa, wc, w, a + 1, rfl, (all_c rfl (all_c rfl (all_c rfl (all_c rfl (all_c rfl (all_c rfl (all_c rfl (all_c rfl (all_c rfl (all_c rfl (all_c rfl (all_c rfl (all_c rfl (all_c rfl (all_c rfl (all_c rfl (all_c rfl (all_c rfl (all_c rfl (all_c rfl (all_c rfl (all_c rfl (all_c rfl (all_c rfl (all_c rfl (all_c rfl (all_c rfl (all_c rfl (all_c rfl (all_c rfl all_n)))))))))))))))))))))))))))))), hS, ?_, ?_, ?_⟩
      · omega
      · rw [hw]
      · exact hwl
     ·
      intro m36 _ H hl37
      rw [hI35] at hl37
      obtain ⟨va, vc, v, b, hm38, he39, hS, hb, hw2, hvl2⟩ := hl37
      obtain ⟨e40, rfl⟩ := he39.ex
      refine AWp_seq ?_
      refine AWp_seq ?_
      refine AWp_E rfl ?_
      refine ed (iv ((b : Nat) : Int)) rfl rfl (dv_move rfl) ?_
      refine ed (iv ((m.pn : Nat) : Int)) rfl rfl (dv_move rfl) ?_
      rcases Decidable.em (((b : Nat) : Int) < ((m.pn : Nat) : Int)) with hc41 | hc41
      ·
       refine ed yes rfl rfl (dv_bin rfl rfl (bi_lss_t hc41)) ?_
       refine E_nil ?_
       refine th_norm ?_
       refine AWp_cond (t := true) rfl (fun _ => ?_) nofun
       refine AWp_skip ?_
       refine th_norm ?_
       refine AWp_seq ?_
       refine AWp_block ?_
       refine AWp_seq ?_
       refine AWp_E rfl ?_
       refine ed (sv a1 (m.pn * m.pn) (m.pn * m.pn)) rfl rfl (dv_move rfl) ?_
       refine ed (iv ((a : Nat) : Int)) rfl rfl (dv_move rfl) ?_
       refine ed (iv ((m.pn : Nat) : Int)) rfl rfl (dv_move rfl) ?_
       have hix := idx_in (p := (a : Int)) (q := (b : Int)) (n := (m.pn : Int)) (by omega) (by omega)
       have hol3 := hseen.1
       have hvl : v.length ≤ 1048576 := by have h1 := congrArg List.length hw2; simp only [List.length_append, List.length_map] at h1; have h2 := edges_len (allE (rxs m.ts)) m.pn a hple (by omega); omega
       refine ed (iv ((a * m.pn : Nat) : Int)) rfl rfl (dv_bin rfl rfl (bi_mul (by omega))) ?_
       refine ed (iv ((b : Nat) : Int)) rfl rfl (dv_move rfl) ?_
       refine ed (iv (((a * m.pn) + b : Nat) : Int)) rfl rfl (dv_bin rfl rfl (bi_add (by omega))) ?_
       obtain ⟨x42, hx42⟩ := get_el (xs := o) (i := (a * m.pn) + b) (by omega)
       refine ed (sp a1 (((a * m.pn) + b) * 1)) rfl rfl (dv_indexAddr (a := sv a1 (m.pn * m.pn) (m.pn * m.pn)) (b := iv (((a * m.pn) + b : Nat) : Int)) rfl rfl (ix_sls (n := (m.pn * m.pn)) (i := ((a * m.pn) + b)) (hS.sls 0 rfl) hx42 rfl rfl rfl (by omega))) ?_
       refine ed (.bool x42) rfl rfl (dv_load rfl (ld_sls (sz := 1) (off := 0) (hS.sls 0 rfl) hx42 (fun _ => rfl) rfl rfl rfl)) ?_
       refine E_nil ?_
       refine th_norm ?_
       refine AWp_cond (t := x42) rfl (fun hc43 => ?_) (fun hc43 => ?_)
       ·
        refine AWp_E rfl ?_
        refine ed (sv va v.length vc) rfl rfl (dv_move rfl) ?_
        refine ed (iv ((a : Nat) : Int)) rfl rfl (dv_move rfl) ?_
        refine ed (iv ((b : Nat) : Int)) rfl rfl (dv_move rfl) ?_
        refine S_lit (sz := 1) (enc := encI) (xs := ([((a : Nat) : Int), ((b : Nat) : Int)] : List (Int))) (n := 2) hS rfl rfl rfl rfl rfl rfl rfl rfl fun a44 H hS => ?_
        refine S_lit (sz := 1) (enc := encR) (xs := ([(⟨a44, 2, ([((a : Nat) : Int), ((b : Nat) : Int)] : List (Int))⟩ : Row)] : List (Row))) (n := 1) hS rfl rfl rfl rfl rfl rfl rfl rfl fun a45 H hS => ?_
        refine S_append (k := 1) (bytes := 24) (enc := encR) (xs := v) (ys := ([(⟨a44, 2, ([((a : Nat) : Int), ((b : Nat) : Int)] : List (Int))⟩ : Row)] : List (Row))) hS rfl rfl rfl rfl rfl rfl rfl rfl rfl rfl (fun _ => rfl) (fun _ => rfl) rfl rfl rfl rfl (hS.sls 4 rfl) (by omega) (by omega) fun a46 c47 x48 H hx49 hn50 hS => ?_
        refine ed (sv a46 x48.length c47) rfl rfl (dv_assign rfl) ?_
        refine E_nil ?_
        refine bl_norm ?_
        refine th_norm ?_
        refine AWp_E rfl ?_
        refine ed (iv ((b : Nat) : Int)) rfl rfl (dv_move rfl) ?_
        refine ed (iv ((b + 1 : Nat) : Int)) rfl rfl (dv_bin rfl rfl (bi_add (by omega))) ?_
        refine ed (iv ((b + 1 : Nat) : Int)) rfl rfl (dv_assign rfl) ?_
        refine E_nil ?_
        have hS := hS.join (f := rowE1 2) (q := (⟨a44, 2, ([((a : Nat) : Int), ((b : Nat) : Int)] : List (Int))⟩ : Row)) 2 3 rfl rfl rfl
        rw [← hx49] at hS
        have hlj : ∀ q ∈ x48, q.xs.length ≤ 1048576 := by
          rw [hx49]
          intro q hq
          rcases List.mem_append.1 hq with hq | hq
          · exact hvl2 q hq
          · rw [List.mem_singleton.1 hq]; exact Nat.le_of_ble_eq_true rfl
        refine loop_next (I := I35) (m.pn - (b + 1)) (by rw [hm38]; omega) ?_
        rw [hI35]
        refine ⟨a46, c47, x48, b + 1, rfl, (all_c rfl (all_c rfl (all_c rfl (all_c rfl (all_c rfl (all_c rfl (all_c rfl (all_c rfl (all_c rfl (all_c rfl (all_c rfl (all_c rfl (all_c rfl (all_c rfl (all_c rfl (all_c rfl (all_c rfl (all_c rfl (all_c rfl (all_c rfl (all_c rfl (all_c rfl (all_c rfl (all_c rfl (all_c rfl (all_c rfl (all_c rfl (all_c rfl (all_c rfl (all_c rfl all_n)))))))))))))))))))))))))))))), (hS.pick [0, 1, 3] rfl), ?_, ?_, ?_⟩
        · omega
        · have hh := hseen.2 a b (by omega) (by omega)
          rw [hx42] at hh; injection hh with hh; rw [hc43] at hh; rw [edgesFrom_step (by omega)] at hw2
          rw [if_pos (of_decide_eq_true hh.symm)] at hw2; rw [hx49, ← hw2]; simp [pairL, rxs]
        · exact hlj
       ·
        refine AWp_skip ?_
        refine bl_norm ?_
        refine th_norm ?_
        refine AWp_E rfl ?_
        refine ed (iv ((b : Nat) : Int)) rfl rfl (dv_move rfl) ?_
        refine ed (iv ((b + 1 : Nat) : Int)) rfl rfl (dv_bin rfl rfl (bi_add (by omega))) ?_
        refine ed (iv ((b + 1 : Nat) : Int)) rfl rfl (dv_assign rfl) ?_
        refine E_nil ?_
        refine loop_next (I := I35) (m.pn - (b + 1)) (by rw [hm38]; omega) ?_
        rw [hI35]
        refine ⟨va, vc, v, b + 1, rfl, (all_c rfl (all_c rfl (all_c rfl (all_c rfl (all_c rfl (all_c rfl (all_c rfl (all_c rfl (all_c rfl (all_c rfl (all_c rfl (all_c rfl (all_c rfl (all_c rfl (all_c rfl (all_c rfl (all_c rfl (all_c rfl (all_c rfl (all_c rfl (all_c rfl (all_c rfl (all_c rfl (all_c rfl (all_c rfl (all_c rfl (all_c rfl (all_c rfl (all_c rfl (all_c rfl all_n)))))))))))))))))))))))))))))), hS, ?_, ?_, ?_⟩
        · omega
        · have hh := hseen.2 a b (by omega) (by omega)
          rw [hx42] at hh; injection hh with hh; rw [hc43] at hh; rw [edgesFrom_step (by omega)] at hw2
          rw [if_neg (of_decide_eq_false hh.symm)] at hw2; simpa using hw2
        · exact hvl2
      ·
       refine ed no rfl rfl (dv_bin rfl rfl (bi_lss_f hc41)) ?_
       refine E_nil ?_
       refine th_norm ?_
       refine AWp_cond (t := false) rfl nofun (fun _ => ?_)
       refine AWp_exit (th_exit (th_exit (bl_exit (?_))))
       refine bl_norm ?_
       refine th_norm ?_
       refine AWp_E rfl ?_
       refine ed (iv ((a : Nat) : Int)) rfl rfl (dv_move rfl) ?_
       refine ed (iv ((a + 1 : Nat) : Int)) rfl rfl (dv_bin rfl rfl (bi_add (by omega))) ?_
       refine ed (iv ((a + 1 : Nat) : Int)) rfl rfl (dv_assign rfl) ?_
       refine E_nil ?_
       refine loop_next (I := I28) (m.pn - (a + 1)) (by rw [hm31]; omega) ?_
       rw [hI28]
       refine ⟨va, vc, v, a + 1, rfl, (all_c rfl (all_c rfl (all_c rfl (all_c rfl (all_c rfl (all_c rfl (all_c rfl (all_c rfl (all_c rfl (all_c rfl (all_c rfl (all_c rfl (all_c rfl (all_c rfl (all_c rfl (all_c rfl (all_c rfl (all_c rfl (all_c rfl (all_c rfl (all_c rfl (all_c rfl (all_c rfl (all_c rfl all_n)))))))))))))))))))))))), hS, ?_, ?_, ?_, ?_⟩
       · omega
       · exact hseen
       · have hbn : b = m.pn := by omega
         rw [hbn, edgesFrom_end, List.map_nil, List.append_nil] at hw2; rw [hw2, List.range_succ, List.flatMap_append, List.map_append]; simp
       · exact hvl2
    ·
     refine ed no rfl rfl (dv_bin rfl rfl (bi_lss_f hc34)) ?_
     refine E_nil ?_
     refine th_norm ?_
     refine AWp_cond (t := false) rfl nofun (fun _ => ?_)
     refine AWp_exit (th_exit (th_exit (bl_exit (?_))))
     refine th_norm ?_
     refine AWp_seq ?_
     refine AWp_E rfl ?_
     refine ed (sv wa w.length wc) rfl rfl (dv_move rfl) ?_
     refine ed (sv wa w.length wc) rfl rfl (dv_assign rfl) ?_
     refine E_nil ?_
     refine th_norm ?_
     refine AWp_ret (?_)
     refine ret_of ?_
     refine readsRes_of (rs := [.tmp 2]) (vs := [sv wa w.length wc]) rfl (re_cons (re_tmp rfl) (re_nil)) rfl ?_
     refine ⟨wa, w.length, wc, w, ?_, rfl, ?_, rfl, hS.pick [1, 2] rfl⟩
     · have han : a = m.pn := by omega
       rw [hw, han, hm_pn]; rfl
     · exact hwl
theorem l00Has_ok (list_a : Option Addr) (list_n list_c : Nat) (list : List (Int)) (n : Int) (H : AH) (hlist : VS H encI list_a list_n list) : ACalls Tryz.prog 150 [sv list_a list_n list_c, iv n] H
  (fun r H' => (n ∈ list ∧ r = yes ∧ SepL H [] H') ∨ (¬(n ∈ list) ∧ r = no ∧ SepL H [] H')) := by
 refine ACalls_of Tryz.func150 rfl (Nat.le_of_ble_eq_true rfl) ?_
 obtain ⟨H0, hH0⟩ : ∃ H0, H0 = H := ⟨_, rfl⟩
 have hS : SepL H0 [] H := hH0 ▸ SepL.refl H
 subst hH0
 obtain ⟨hlist_s, hlist_n, hlist_b⟩ := id hlist
 refine AWp_seq ?_
 refine AWp_E rfl ?_
 refine ed no rfl rfl (dv_assign rfl) ?_
 refine E_nil ?_
 refine th_norm ?_
 refine AWp_seq ?_
 refine AWp_seq ?_
 refine AWp_E rfl ?_
 refine ed (iv 0) rfl rfl (dv_assign rfl) ?_
 refine E_nil ?_
 refine th_norm ?_
 refine AWp_block ?_
 obtain ⟨I1, hI1⟩ : ∃ I : Nat → Env → AH → Prop, ∀ m_ e_ Hl, I m_ e_ Hl = (∃ (t4 : Bool) (i : Nat), m_ = list_n - i ∧ AllE [(0, sv list_a list_n list_c), (1, iv n), (4, .bool t4), (5, iv ((i : Nat) : Int))] e_ ∧ SepL H0 [] Hl ∧ (i ≤ list_n) ∧ (∀ q x, q < i → list[q]? = some x → x ≠ n)) := ⟨_, fun _ _ _ => rfl⟩
 refine AWp_loop I1 (list_n - (0)) ?_ ?_
 ·
  rw [hI1]
  refine ⟨false, 0, rfl, (all_c rfl (all_c rfl (all_c rfl (all_c rfl all_n)))), hS, ?_, ?_⟩
  · omega
  · intro q x hq; omega
 ·
  intro m2 _ H hl3
  rw [hI1] at hl3
  obtain ⟨t4, i, hm4, he5, hS, hi, hno⟩ := hl3
  obtain ⟨e6, rfl⟩ := he5.ex
  refine AWp_seq ?_
  refine AWp_seq ?_
  refine AWp_E rfl ?_
  refine ed (iv ((i : Nat) : Int)) rfl rfl (dv_move rfl) ?_
  refine ed (sv list_a list_n list_c) rfl rfl (dv_move rfl) ?_
  refine ed (iv ((list_n : Nat) : Int)) rfl rfl (dv_len rfl rfl rfl rfl rfl) ?_
  rcases Decidable.em (((i : Nat) : Int) < ((list_n : Nat) : Int)) with hc7 | hc7
  ·
   refine ed yes rfl rfl (dv_bin rfl rfl (bi_lss_t hc7)) ?_
   refine E_nil ?_
   refine th_norm ?_
   refine AWp_cond (t := true) rfl (fun _ => ?_) nofun
   refine AWp_skip ?_
   refine th_norm ?_
   refine AWp_seq ?_
   refine AWp_block ?_
   refine AWp_seq ?_
   refine AWp_E rfl ?_
   refine ed (sv list_a list_n list_c) rfl rfl (dv_move rfl) ?_
   refine ed (iv ((i : Nat) : Int)) rfl rfl (dv_move rfl) ?_
   obtain ⟨x8, hx8⟩ := get_el (xs := list) (i := i) (by omega)
   refine ed (sp list_a (i * 1)) rfl rfl (dv_indexAddr (a := sv list_a list_n list_c) (b := iv ((i : Nat) : Int)) rfl rfl (ix_sls (n := list_n) (i := i) (hlist_s.keep hS.keep) hx8 rfl rfl rfl (by omega))) ?_
   refine ed (iv x8) rfl rfl (dv_load rfl (ld_sls (sz := 1) (off := 0) (hlist_s.keep hS.keep) hx8 (fun _ => rfl) rfl rfl rfl)) ?_
   refine ed (iv n) rfl rfl (dv_move rfl) ?_
   rcases Decidable.em ((x8 : Int) = n) with hc9 | hc9
   ·
    refine ed yes rfl rfl (dv_bin rfl rfl (bi_eql_t hc9)) ?_
    refine E_nil ?_
    refine th_norm ?_
    refine AWp_cond (t := true) rfl (fun _ => ?_) nofun
    refine AWp_seq ?_
    refine AWp_E rfl ?_
    refine ed yes rfl rfl (dv_assign rfl) ?_
    refine E_nil ?_
    refine th_norm ?_
    refine AWp_ret (bl_ret (th_ret (th_ret (bl_ret (th_ret (?_))))))
    refine ret_of ?_
    refine readsRes_of (rs := [.tmp 4]) (vs := [yes]) rfl (re_cons (re_tmp rfl) (re_nil)) rfl ?_
    refine .inl ?_
    refine ⟨?_, rfl, .base hS.keep⟩
    · have hmm := List.mem_of_getElem? hx8; rwa [show x8 = n by omega] at hmm
   ·
    refine ed no rfl rfl (dv_bin rfl rfl (bi_eql_f hc9)) ?_
    refine E_nil ?_
    refine th_norm ?_
    refine AWp_cond (t := false) rfl nofun (fun _ => ?_)
    refine AWp_skip ?_
    refine bl_norm ?_
    refine th_norm ?_
    refine AWp_E rfl ?_
    refine ed (iv ((i : Nat) : Int)) rfl rfl (dv_move rfl) ?_
    refine ed (iv ((i + 1 : Nat) : Int)) rfl rfl (dv_bin rfl rfl (bi_add (by omega))) ?_
    refine ed (iv ((i + 1 : Nat) : Int)) rfl rfl (dv_assign rfl) ?_
    refine E_nil ?_
    refine loop_next (I := I1) (list_n - (i + 1)) (by rw [hm4]; omega) ?_
    rw [hI1]
    refine ⟨t4, i + 1, rfl, (all_c rfl (all_c rfl (all_c rfl (all_c rfl all_n)))), hS, ?_, ?_⟩
    · omega
    · intro q x hq hx
      by_cases hqi : q < i
      · exact hno q x hqi hx
      · have hqe : q = i := by omega
        subst hqe; rw [hx8] at hx; injection hx with hx; omega
  ·
   refine ed no rfl rfl (dv_bin rfl rfl (bi_lss_f hc7)) ?_
   refine E_nil ?_
   refine th_norm ?_
   refine AWp_cond (t := false) rfl nofun (fun _ => ?_)
   refine AWp_exit (th_exit (th_exit (bl_exit (?_))))
   refine th_norm ?_
   refine AWp_seq ?_
   refine AWp_E rfl ?_
   refine ed no rfl rfl (dv_assign rfl) ?_
   refine E_nil ?_
   refine th_norm ?_
   refine AWp_ret (?_)
   refine ret_of ?_
   refine readsRes_of (rs := [.tmp 4]) (vs := [no]) rfl (re_cons (re_tmp rfl) (re_nil)) rfl ?_
   refine .inr (?_)
   refine ⟨?_, rfl, .base hS.keep⟩
   · intro hm
     obtain ⟨q, hq⟩ := List.mem_iff_getElem?.1 hm
     exact hno q n (by have := get_lt hq; omega) hq rfl
theorem l03Third_ok (t_a : Option Addr) (t_n t_c : Nat) (t : List (Int)) (i : Int) (j : Int) (n : Nat) (H : AH) (ht : VS H encI t_a t_n t) (ht0 : triP t n) (hij : i ≠ j) : ACalls Tryz.prog 143 [sv t_a t_n t_c, iv i, iv j] H
  (fun r H' => (∃ (v_ : Int), (i ∈ t ∧ j ∈ t) ∧ 0 ≤ thirdOf t i j ∧ thirdOf t i j = v_ ∧ r = iv v_ ∧ SepL H [] H') ∨ (∃ (v_ : Int), (¬(i ∈ t ∧ j ∈ t)) ∧ -1 = v_ ∧ r = iv v_ ∧ SepL H [] H')) := by
 refine ACalls_of Tryz.func143 rfl (Nat.le_of_ble_eq_true rfl) ?_
 obtain ⟨H0, hH0⟩ : ∃ H0, H0 = H := ⟨_, rfl⟩
 have hS : SepL H0 [] H := hH0 ▸ SepL.refl H
 subst hH0
 obtain ⟨ht_s, ht_n, ht_b⟩ := id ht
 refine AWp_seq ?_
 refine AWp_E rfl ?_
 refine ed (iv 0) rfl rfl (dv_assign rfl) ?_
 refine E_nil ?_
 refine th_norm ?_
 refine AWp_seq ?_
 refine AWp_seq ?_
 refine AWp_E rfl ?_
 refine ed (sv t_a t_n t_c) rfl rfl (dv_move rfl) ?_
 refine ed (iv i) rfl rfl (dv_move rfl) ?_
 refine E_call (vs := [sv t_a t_n t_c, iv i]) rfl rfl rfl rfl rfl rfl rfl (l00Has_ok t_a t_n t_c t i _ (ht.keep hS.keep)) ?_
 rintro _ H (⟨h1, rfl, hQ⟩ | ⟨h2, rfl, hQ⟩)
 ·
  have hS := hS.up hQ.keep
  refine ed no rfl rfl (dv_un rfl rfl) ?_
  refine ed no rfl rfl (dv_move rfl) ?_
  refine ed (sv t_a t_n t_c) rfl rfl (dv_move rfl) ?_
  refine ed (iv j) rfl rfl (dv_move rfl) ?_
  refine E_call (vs := [sv t_a t_n t_c, iv j]) rfl rfl rfl rfl rfl rfl rfl (l00Has_ok t_a t_n t_c t j _ (ht.keep hS.keep)) ?_
  rintro _ H (⟨h3, rfl, hQ⟩ | ⟨h4, rfl, hQ⟩)
  ·
   have hS := hS.up hQ.keep
   refine ed no rfl rfl (dv_un rfl rfl) ?_
   refine ed no rfl rfl (dv_pick (t := false) rfl rfl) ?_
   refine E_nil ?_
   refine th_norm ?_
   refine AWp_cond (t := false) rfl nofun (fun _ => ?_)
   refine AWp_skip ?_
   refine th_norm ?_
   refine AWp_seq ?_
   refine AWp_seq ?_
   refine AWp_E rfl ?_
   refine ed (sv t_a t_n t_c) rfl rfl (dv_move rfl) ?_
   refine ed (iv ((t_n : Nat) : Int)) rfl rfl (dv_len rfl rfl rfl rfl rfl) ?_
   refine ed (iv 0) rfl rfl (dv_move rfl) ?_
   refine E_nil ?_
   refine th_norm ?_
   refine AWp_block ?_
   obtain ⟨I5, hI5⟩ : ∃ I : Nat → Env → AH → Prop, ∀ m_ e_ Hl, I m_ e_ Hl = (∃ (t6 : Int) (k : Nat), m_ = t_n - k ∧ AllE [(0, sv t_a t_n t_c), (1, iv i), (2, iv j), (6, iv t6), (8, sv t_a t_n t_c), (9, iv i), (10, yes), (11, no), (12, no), (13, sv t_a t_n t_c), (14, iv j), (15, yes), (16, no), (17, no), (18, sv t_a t_n t_c), (19, iv ((t_n : Nat) : Int)), (20, iv ((k : Nat) : Int))] e_ ∧ SepL H0 [] Hl ∧ (k ≤ t_n) ∧ (∀ q x, q < k → t[q]? = some x → x = i ∨ x = j)) := ⟨_, fun _ _ _ => rfl⟩
   refine AWp_loop I5 (t_n - (0)) ?_ ?_
   ·
    rw [hI5]
    refine ⟨0, 0, rfl, (all_c rfl (all_c rfl (all_c rfl (all_c rfl (all_c rfl (all_c rfl (all_c rfl (all_c rfl (all_c rfl (all_c rfl (all_c rfl (all_c rfl (all_c rfl (all_c rfl (all_c rfl (all_c rfl (all_c rfl all_n))))))))))))))))), hS, ?_, ?_⟩
    · omega
    · intro q x hq; omega
   ·
    intro m6 _ H hl7
    rw [hI5] at hl7
    obtain ⟨t6, k, hm8, he9, hS, hk, hno⟩ := hl7
    obtain ⟨e10, rfl⟩ := he9.ex
    refine AWp_seq ?_
    refine AWp_E rfl ?_
    rcases Decidable.em (((k : Nat) : Int) < ((t_n : Nat) : Int)) with hc11 | hc11
    ·
     refine ed yes rfl rfl (dv_bin rfl rfl (bi_lss_t hc11)) ?_
     refine E_nil ?_
     refine th_norm ?_
     refine AWp_seq ?_
     refine AWp_cond (t := true) rfl (fun _ => ?_) nofun
     refine AWp_skip ?_
     refine th_norm ?_
     refine AWp_seq ?_
     refine AWp_block ?_
     refine AWp_seq ?_
     refine AWp_E rfl ?_
     refine ed (iv ((k : Nat) : Int)) rfl rfl (dv_move rfl) ?_
     refine ed (iv ((k : Nat) : Int)) rfl rfl (dv_assign rfl) ?_
     refine E_nil ?_
     refine th_norm ?_
     refine AWp_seq ?_
     refine AWp_E rfl ?_
     refine ed (sv t_a t_n t_c) rfl rfl (dv_move rfl) ?_
     refine ed (iv ((k : Nat) : Int)) rfl rfl (dv_move rfl) ?_
     obtain ⟨x12, hx12⟩ := get_el (xs := t) (i := k) (by omega)
     refine ed (sp t_a (k * 1)) rfl rfl (dv_indexAddr (a := sv t_a t_n t_c) (b := iv ((k : Nat) : Int)) rfl rfl (ix_sls (n := t_n) (i := k) (ht_s.keep hS.keep) hx12 rfl rfl rfl (by omega))) ?_
     refine ed (iv x12) rfl rfl (dv_load rfl (ld_sls (sz := 1) (off := 0) (ht_s.keep hS.keep) hx12 (fun _ => rfl) rfl rfl rfl)) ?_
     refine ed (iv i) rfl rfl (dv_move rfl) ?_
     rcases Decidable.em ((x12 : Int) ≠ i) with hc13 | hc13
     ·
      refine ed yes rfl rfl (dv_bin rfl rfl (bi_neq_t hc13)) ?_
      refine ed yes rfl rfl (dv_move rfl) ?_
      refine ed (sv t_a t_n t_c) rfl rfl (dv_move rfl) ?_
      refine ed (iv ((k : Nat) : Int)) rfl rfl (dv_move rfl) ?_
      refine ed (sp t_a (k * 1)) rfl rfl (dv_indexAddr (a := sv t_a t_n t_c) (b := iv ((k : Nat) : Int)) rfl rfl (ix_sls (n := t_n) (i := k) (ht_s.keep hS.keep) hx12 rfl rfl rfl (by omega))) ?_
      refine ed (iv x12) rfl rfl (dv_load rfl (ld_sls (sz := 1) (off := 0) (ht_s.keep hS.keep) hx12 (fun _ => rfl) rfl rfl rfl)) ?_
      refine ed (iv j) rfl rfl (dv_move rfl) ?_
      rcases Decidable.em ((x12 : Int) ≠ j) with hc14 | hc14
      ·
       refine ed yes rfl rfl (dv_bin rfl rfl (bi_neq_t hc14)) ?_
       refine ed yes rfl rfl (dv_pick (t := true) rfl rfl) ?_
       refine E_nil ?_
       refine th_norm ?_
       refine AWp_cond (t := true) rfl (fun _ => ?_) nofun
       refine AWp_seq ?_
       refine AWp_E rfl ?_
       refine ed (sv t_a t_n t_c) rfl rfl (dv_move rfl) ?_
       refine ed (iv ((k : Nat) : Int)) rfl rfl (dv_move rfl) ?_
       refine ed (sp t_a (k * 1)) rfl rfl (dv_indexAddr (a := sv t_a t_n t_c) (b := iv ((k : Nat) : Int)) rfl rfl (ix_sls (n := t_n) (i := k) (ht_s.keep hS.keep) hx12 rfl rfl rfl (by omega))) ?_
       refine ed (iv x12) rfl rfl (dv_load rfl (ld_sls (sz := 1) (off := 0) (ht_s.keep hS.keep) hx12 (fun _ => rfl) rfl rfl rfl)) ?_
       refine ed (iv x12) rfl rfl (dv_assign rfl) ?_
       refine E_nil ?_
       refine th_norm ?_
       refine AWp_ret (bl_ret (th_ret (th_ret (bl_ret (th_ret (?_))))))
       refine ret_of ?_
       refine readsRes_of (rs := [.tmp 6]) (vs := [iv x12]) rfl (re_cons (re_tmp rfl) (re_nil)) rfl ?_
       refine .inl ?_
       refine ⟨x12, ?_, ?_, ?_, rfl, .base hS.keep⟩
       · exact ⟨by assumption, by assumption⟩
       · exact (third_in ht0 (by assumption) (by assumption) hij).1
       · exact (third_eq ht0 (by assumption) (by assumption) hij hx12 (by omega) (by omega)).symm
      ·
       refine ed no rfl rfl (dv_bin rfl rfl (bi_neq_f hc14)) ?_
       refine ed no rfl rfl (dv_pick (t := true) rfl rfl) ?_
       refine E_nil ?_
       refine th_norm ?_
       refine AWp_cond (t := false) rfl nofun (fun _ => ?_)
       refine AWp_skip ?_
       refine bl_norm ?_
       refine th_norm ?_
       refine AWp_E rfl ?_
       refine ed (iv ((k + 1 : Nat) : Int)) rfl rfl (dv_bin rfl rfl (bi_add (by omega))) ?_
       refine ed (iv ((k + 1 : Nat) : Int)) rfl rfl (dv_move rfl) ?_
       refine E_nil ?_
       refine loop_next (I := I5) (t_n - (k + 1)) (by rw [hm8]; omega) ?_
       rw [hI5]
       refine ⟨t6, k + 1, rfl, (all_c rfl (all_c rfl (all_c rfl (all_c rfl (all_c rfl (all_c rfl (all_c rfl (all_c rfl (all_c rfl (all_c rfl (all_c rfl (all_c rfl (all_c rfl (all_c rfl (all_c rfl (all_c rfl (all_c rfl all_n))))))))))))))))), hS, ?_, ?_⟩
       · omega
       · intro q x hq hx
         by_cases hqi : q < k
         · exact hno q x hqi hx
         · have hqe : q = k := by omega
           subst hqe; rw [hx12] at hx; injection hx with hx; omega
     ·
      refine ed no rfl rfl (dv_bin rfl rfl (bi_neq_f hc13)) ?_
      refine ed no rfl rfl (dv_move rfl) ?_
      refine E_skip rfl rfl ?_
      refine E_skip rfl rfl ?_
      refine E_skip rfl rfl ?_
      refine E_skip rfl rfl ?_
      refine E_skip rfl rfl ?_
      refine E_skip rfl rfl ?_
      refine ed no rfl rfl (dv_pick (t := false) rfl rfl) ?_
      refine E_nil ?_
      refine th_norm ?_
      refine AWp_cond (t := false) rfl nofun (fun _ => ?_)
      refine AWp_skip ?_
      refine bl_norm ?_
      refine th_norm ?_
      refine AWp_E rfl ?_
      refine ed (iv ((k + 1 : Nat) : Int)) rfl rfl (dv_bin rfl rfl (bi_add (by omega))) ?_
      refine ed (iv ((k + 1 : Nat) : Int)) rfl rfl (dv_move rfl) ?_
      refine E_nil ?_
      refine loop_next (I := I5) (t_n - (k + 1)) (by rw [hm8]; omega) ?_
      rw [hI5]
      refine ⟨t6, k + 1, rfl, (all_c rfl (all_c rfl (all_c rfl (all_c rfl (all_c rfl (all_c rfl (all_c rfl (all_c rfl (all_c rfl (all_c rfl (all_c rfl (all_c rfl (all_c rfl (all_c rfl (all_c rfl (all_c rfl (all_c rfl all_n))))))))))))))))), hS, ?_, ?_⟩
      · omega
      · intro q x hq hx
        by_cases hqi : q < k
        · exact hno q x hqi hx
        · have hqe : q = k := by omega
          subst hqe; rw [hx12] at hx; injection hx with hx; omega
    ·
     refine ed no rfl rfl (dv_bin rfl rfl (bi_lss_f hc11)) ?_
     refine E_nil ?_
     refine th_norm ?_
     refine AWp_seq ?_
     refine AWp_cond (t := false) rfl nofun (fun _ => ?_)
     refine AWp_exit (th_exit (th_exit (bl_exit (?_))))
     refine th_norm ?_
     refine AWp_seq ?_
     refine AWp_E rfl ?_
     refine ed (iv (-1)) rfl rfl (dv_assign rfl) ?_
     refine E_nil ?_
     refine th_norm ?_
     refine AWp_ret (?_)
     refine ret_of ?_
     refine readsRes_of (rs := [.tmp 6]) (vs := [iv (-1)]) rfl (re_cons (re_tmp rfl) (re_nil)) rfl ?_
     refine .inl ?_
     refine ⟨(-1), ?_, ?_, ?_, rfl, .base hS.keep⟩
     · exfalso; exact third_no ht0 (fun q x hq hx => hno q x (by omega) hx)
     · exfalso; exact third_no ht0 (fun q x hq hx => hno q x (by omega) hx)
     · exfalso; exact third_no ht0 (fun q x hq hx => hno q x (by omega) hx)
  ·
   have hS := hS.up hQ.keep
   refine ed yes rfl rfl (dv_un rfl rfl) ?_
   refine ed yes rfl rfl (dv_pick (t := false) rfl rfl) ?_
   refine E_nil ?_
   refine th_norm ?_
   refine AWp_cond (t := true) rfl (fun _ => ?_) nofun
   refine AWp_seq ?_
   refine AWp_E rfl ?_
   refine ed (iv (-1)) rfl rfl (dv_assign rfl) ?_
   refine E_nil ?_
   refine th_norm ?_
   refine AWp_ret (th_ret (?_))
   refine ret_of ?_
   refine readsRes_of (rs := [.tmp 6]) (vs := [iv (-1)]) rfl (re_cons (re_tmp rfl) (re_nil)) rfl ?_
   refine .inr (?_)
   refine ⟨(-1), ?_, ?_, rfl, .base hS.keep⟩
   · intro hh; simp_all
   · rfl
 ·
  have hS := hS.up hQ.keep
  refine ed yes rfl rfl (dv_un rfl rfl) ?_
  refine ed yes rfl rfl (dv_move rfl) ?_
  refine E_skip rfl rfl ?_
  refine E_skip rfl rfl ?_
  refine E_skip rfl rfl ?_
  refine E_skip rfl rfl ?_
  refine ed yes rfl rfl (dv_pick (t := true) rfl rfl) ?_
  refine E_nil ?_
  refine th_norm ?_
  refine AWp_cond (t := true) rfl (fun _ => ?_) nofun
  refine AWp_seq ?_
  refine AWp_E rfl ?_
  refine ed (iv (-1)) rfl rfl (dv_assign rfl) ?_
  refine E_nil ?_
  refine th_norm ?_
  refine AWp_ret (th_ret (?_))
  refine ret_of ?_
  refine readsRes_of (rs := [.tmp 6]) (vs := [iv (-1)]) rfl (re_cons (re_tmp rfl) (re_nil)) rfl ?_
  refine .inr (?_)
  refine ⟨(-1), ?_, ?_, rfl, .base hS.keep⟩
  · intro hh; simp_all
  · rfl
theorem l03Hinges_ok (m_p m_o : Nat) (m : LM) (H : AH) (hmpv : PV H m_p m_o m.v) (hm : m.ok H) (hm0 : meshP m.ps.length (rxs m.ts)) : ACalls Tryz.prog 119 [pt m_p m_o] H
  (fun r H' => ∃ (x_a : Option Addr), ∃ (x_n : Nat), ∃ (x_c : Nat), ∃ (x_ : List Row), rxs x_ = hingesD m.ps.length (rxs m.ts) ∧ x_.length = x_n ∧ (∀ q ∈ x_, q.xs.length ≤ 1048576) ∧ r = sv x_a x_n x_c ∧ SepL H [sl encR 53 1 x_a x_c x_, rowsE 2 x_] H') := by
 refine ACalls_of Tryz.func119 rfl (Nat.le_of_ble_eq_true rfl) ?_
 obtain ⟨H0, hH0⟩ : ∃ H0, H0 = H := ⟨_, rfl⟩
 have hS : SepL H0 [] H := hH0 ▸ SepL.refl H
 subst hH0
 obtain ⟨⟨hm_ps, hm_pn, hm_pb⟩, hm_ts, hm_tn, hm_tb⟩ := id hm
 have hmm : meshP m.pn (rxs m.ts) := hm_pn ▸ hm0
 refine AWp_seq ?_
 refine AWp_E rfl ?_
 refine ed (sv none 0 0) rfl rfl (dv_assign rfl) ?_
 refine E_nil ?_
 refine th_norm ?_
 refine AWp_seq ?_
 refine AWp_E rfl ?_
 refine S_lit (sz := 1) (enc := encR) (xs := ([] : List Row)) (n := 0) hS rfl rfl rfl rfl rfl rfl rfl rfl fun a1 H hS => ?_
 refine ed (sv a1 0 0) rfl rfl (dv_assign rfl) ?_
 refine E_nil ?_
 refine th_norm ?_
 refine AWp_seq ?_
 refine AWp_E rfl ?_
 refine ed (pt m_p m_o) rfl rfl (dv_move rfl) ?_
 refine E_call (vs := [pt m_p m_o]) rfl rfl rfl rfl rfl rfl rfl (l02Edges_ok m_p m_o m _ (hmpv.keep hS.keep) (hm.keep hS.keep) hm0) ?_
 rintro _ H ⟨x2, x3, x4, x5, h6, rfl, h7, rfl, hQ⟩
 have hS := hS.push hQ
 refine ed (sv x2 x5.length x4) rfl rfl (dv_assign rfl) ?_
 refine E_nil ?_
 refine th_norm ?_
 refine AWp_seq ?_
 refine AWp_seq ?_
 refine AWp_E rfl ?_
 refine ed (sv x2 x5.length x4) rfl rfl (dv_move rfl) ?_
 refine ed (iv ((x5.length : Nat) : Int)) rfl rfl (dv_len rfl rfl rfl rfl rfl) ?_
 refine ed (iv 0) rfl rfl (dv_move rfl) ?_
 refine E_nil ?_
 refine th_norm ?_
 refine AWp_block ?_
 have hS := hS.zero (rowE1 2)
 have hel := edgeList_len m.ps.length (rxs m.ts) hm0.1
 have hql : x5.length = (edgeList m.ps.length (rxs m.ts)).length := by simpa [rxs] using congrArg List.length h6
 obtain ⟨I8, hI8⟩ : ∃ I : Nat → Env → AH → Prop, ∀ m_ e_ Hl, I m_ e_ Hl = (∃ (wa : Option Addr) (wc : Nat) (w : List (Row)) (i : Nat), m_ = (edgeList m.ps.length (rxs m.ts)).length - i ∧ AllE [(0, pt m_p m_o), (2, sv none 0 0), (3, sv wa w.length wc), (4, sv x2 x5.length x4), (11, sv a1 0 0), (12, pt m_p m_o), (13, sv x2 x5.length x4), (14, sv x2 x5.length x4), (15, iv ((x5.length : Nat) : Int)), (16, iv ((i : Nat) : Int))] e_ ∧ SepL H0 [sl encR 53 1 wa wc w, sl encR 53 1 x2 x4 x5, rowsE 2 x5, rowsE 2 w] Hl ∧ (i ≤ (edgeList m.ps.length (rxs m.ts)).length) ∧ (rxs w = hingesTo m.ps.length (rxs m.ts) i) ∧ (∀ q ∈ w, q.xs.length ≤ 1048576)) := ⟨_, fun _ _ _ => rfl⟩
 refine AWp_loop I8 ((edgeList m.ps.length (rxs m.ts)).length - (0)) ?_ ?_
 ·
  rw [hI8]
  refine ⟨a1, 0, ([] : List Row), 0, rfl, (all_c rfl (all_c rfl (all_c rfl (all_c rfl (all_c rfl (all_c rfl (all_c rfl (all_c rfl (all_c rfl (all_c rfl all_n)))))))))), hS, ?_, ?_, ?_⟩
  · omega
  · rfl
  · simp
 ·
  intro m9 _ H hl10
  rw [hI8] at hl10
  obtain ⟨wa, wc, w, i, hm11, he12, hS, hi, hw, hwl⟩ := hl10
  obtain ⟨e13, rfl⟩ := he12.ex
  have hwb := hingesTo_le m.ps.length (rxs m.ts) i
  rw [← hw, rxs, List.length_map] at hwb
  refine AWp_seq ?_
  refine AWp_E rfl ?_
  rcases Decidable.em (((i : Nat) : Int) < ((x5.length : Nat) : Int)) with hc14 | hc14
  ·
   refine ed yes rfl rfl (dv_bin rfl rfl (bi_lss_t hc14)) ?_
   refine E_nil ?_
   refine th_norm ?_
   refine AWp_seq ?_
   refine AWp_cond (t := true) rfl (fun _ => ?_) nofun
   refine AWp_skip ?_
   refine th_norm ?_
   refine AWp_seq ?_
   refine AWp_block ?_
   refine AWp_seq ?_
   refine AWp_E rfl ?_
   refine ed (iv ((i : Nat) : Int)) rfl rfl (dv_move rfl) ?_
   refine ed (iv ((i : Nat) : Int)) rfl rfl (dv_assign rfl) ?_
   refine E_nil ?_
   refine th_norm ?_
   refine AWp_seq ?_
   refine AWp_E rfl ?_
   refine ed (sv x2 x5.length x4) rfl rfl (dv_move rfl) ?_
   refine ed (iv ((i : Nat) : Int)) rfl rfl (dv_move rfl) ?_
   obtain ⟨x15, hx15⟩ := get_el (xs := x5) (i := i) (by omega)
   obtain ⟨e16, he17, hxe21, hin20⟩ := edge_row h6 hx15
   have hx18 : x15.xs[0]? = some e16.1 := by rw [hxe21]; rfl
   have hx19 : x15.xs[1]? = some e16.2 := by rw [hxe21]; rfl
   have hxl_x15 : x15.xs.length = 2 := by rw [hxe21]; rfl
   refine ed (sp x2 (i * 1)) rfl rfl (dv_indexAddr (a := sv x2 x5.length x4) (b := iv ((i : Nat) : Int)) rfl rfl (ix_sls (n := x5.length) (i := i) (hS.sls 1 rfl) hx15 rfl rfl rfl (get_lt hx15))) ?_
   refine ed (sv x15.a x15.xs.length x15.c) rfl rfl (dv_load rfl (ld_sls (sz := 1) (off := 0) (hS.sls 1 rfl) hx15 (fun _ => rfl) rfl rfl rfl)) ?_
   refine ed (sp x15.a (0 * 1)) rfl rfl (dv_indexAddr (a := sv x15.a x15.xs.length x15.c) (b := iv 0) rfl rfl (ix_sls (n := x15.xs.length) (i := 0) (rowsE_sls (hS.at (i := 2) rfl) hx15) hx18 rfl rfl rfl (get_lt hx18))) ?_
   refine ed (iv e16.1) rfl rfl (dv_load rfl (ld_sls (sz := 1) (off := 0) (rowsE_sls (hS.at (i := 2) rfl) hx15) hx18 (fun _ => rfl) rfl rfl rfl)) ?_
   refine ed (iv e16.1) rfl rfl (dv_assign rfl) ?_
   refine E_nil ?_
   refine th_norm ?_
   refine AWp_seq ?_
   refine AWp_E rfl ?_
   refine ed (sv x2 x5.length x4) rfl rfl (dv_move rfl) ?_
   refine ed (iv ((i : Nat) : Int)) rfl rfl (dv_move rfl) ?_
   refine ed (sp x2 (i * 1)) rfl rfl (dv_indexAddr (a := sv x2 x5.length x4) (b := iv ((i : Nat) : Int)) rfl rfl (ix_sls (n := x5.length) (i := i) (hS.sls 1 rfl) hx15 rfl rfl rfl (get_lt hx15))) ?_
   refine ed (sv x15.a x15.xs.length x15.c) rfl rfl (dv_load rfl (ld_sls (sz := 1) (off := 0) (hS.sls 1 rfl) hx15 (fun _ => rfl) rfl rfl rfl)) ?_
   refine ed (sp x15.a (1 * 1)) rfl rfl (dv_indexAddr (a := sv x15.a x15.xs.length x15.c) (b := iv 1) rfl rfl (ix_sls (n := x15.xs.length) (i := 1) (rowsE_sls (hS.at (i := 2) rfl) hx15) hx19 rfl rfl rfl (get_lt hx19))) ?_
   refine ed (iv e16.2) rfl rfl (dv_load rfl (ld_sls (sz := 1) (off := 0) (rowsE_sls (hS.at (i := 2) rfl) hx15) hx19 (fun _ => rfl) rfl rfl rfl)) ?_
   refine ed (iv e16.2) rfl rfl (dv_assign rfl) ?_
   refine E_nil ?_
   refine th_norm ?_
   refine AWp_seq ?_
   refine AWp_E rfl ?_
   refine ed (iv e16.1) rfl rfl (dv_move rfl) ?_
   refine ed (iv e16.2) rfl rfl (dv_move rfl) ?_
   refine S_lit (sz := 1) (enc := encI) (xs := ([e16.1, e16.2] : List (Int))) (n := 2) hS rfl rfl rfl rfl rfl rfl rfl rfl fun a22 H hS => ?_
   refine ed (sv a22 2 2) rfl rfl (dv_assign rfl) ?_
   refine E_nil ?_
   refine th_norm ?_
   refine AWp_seq ?_
   refine AWp_seq ?_
   refine AWp_E rfl ?_
   refine ed (pt m_p m_o) rfl rfl (dv_move rfl) ?_
   refine ed (pt m_p m_o) rfl rfl (dv_nilCheck rfl) ?_
   refine ed (pt m_p (m_o + 1)) rfl rfl (dv_fieldAddr rfl rfl) ?_
   refine ed (sv m.ta m.tn m.tc) rfl rfl (dv_load rfl (ld_pv (off := 1) (hmpv.keep hS.keep) rfl rfl rfl)) ?_
   refine ed (iv ((m.tn : Nat) : Int)) rfl rfl (dv_len rfl rfl rfl rfl rfl) ?_
   refine ed (iv 0) rfl rfl (dv_move rfl) ?_
   refine E_nil ?_
   refine th_norm ?_
   refine AWp_block ?_
   obtain ⟨I23, hI23⟩ : ∃ I : Nat → Env → AH → Prop, ∀ m_ e_ Hl, I m_ e_ Hl = (∃ (ra : Option Addr) (rc : Nat) (r : List (Int)) (k : Nat), m_ = m.tn - k ∧ AllE [(0, pt m_p m_o), (2, sv none 0 0), (3, sv wa w.length wc), (4, sv x2 x5.length x4), (5, iv ((i : Nat) : Int)), (6, iv e16.1), (7, iv e16.2), (8, sv ra r.length rc), (11, sv a1 0 0), (12, pt m_p m_o), (13, sv x2 x5.length x4), (14, sv x2 x5.length x4), (15, iv ((x5.length : Nat) : Int)), (16, iv ((i : Nat) : Int)), (17, yes), (18, iv ((i : Nat) : Int)), (19, sv x2 x5.length x4), (20, iv ((i : Nat) : Int)), (21, sp x2 (i * 1)), (22, sv x15.a x15.xs.length x15.c), (23, sp x15.a (0 * 1)), (24, iv e16.1), (25, sv x2 x5.length x4), (26, iv ((i : Nat) : Int)), (27, sp x2 (i * 1)), (28, sv x15.a x15.xs.length x15.c), (29, sp x15.a (1 * 1)), (30, iv e16.2), (31, iv e16.1), (32, iv e16.2), (33, sv a22 2 2), (34, pt m_p m_o), (35, pt m_p m_o), (36, pt m_p (m_o + 1)), (37, sv m.ta m.tn m.tc), (38, iv ((m.tn : Nat) : Int)), (39, iv ((k : Nat) : Int))] e_ ∧ SepL H0 [sl encR 53 1 wa wc w, sl encR 53 1 x2 x4 x5, rowsE 2 x5, rowsE 2 w, sl encI 2 1 ra rc r] Hl ∧ (k ≤ m.tn) ∧ (r = [e16.1, e16.2] ++ thirds ((rxs m.ts).take k) e16)) := ⟨_, fun _ _ _ => rfl⟩
   refine AWp_loop I23 (m.tn - (0)) ?_ ?_
   ·
    rw [hI23]
    refine ⟨a22, 2, ([e16.1, e16.2] : List (Int)), 0, rfl, (all_c rfl (all_c rfl (all_c rfl (all_c rfl (all_c rfl (all_c rfl (all_c rfl (all_c rfl (all_c rfl (all_c rfl (all_c rfl (all_c rfl (all_c rfl (all_c rfl (all_c rfl (all_c rfl (all_c rfl (all_c rfl (all_c rfl (all_c rfl (all_c rfl (all_c rfl (all_c rfl (all_c rfl (all_c rfl (all_c rfl (all_c rfl (all_c rfl (all_c rfl (all_c rfl (all_c rfl (all_c rfl (all_c rfl (all_c rfl (all_c rfl (all_c rfl (all_c rfl all_n))))))))))))))))))))))))))))))))))))), hS, ?_, ?_⟩
    · omega
    · rfl
   ·
    intro m24 _ H hl25
    rw [hI23] at hl25
    obtain ⟨ra, rc, r, k, hm26, he27, hS, hk, hr⟩ := hl25
    obtain ⟨e28, rfl⟩ := he27.ex
    have hrl : r.length ≤ 2 + (rxs m.ts).length := by rw [hr]; have := thirds_le ((rxs m.ts).take k) e16; rw [List.length_take] at this; simp only [List.length_append, List.length_cons, List.length_nil]; omega
    rw [rxs, List.length_map] at hrl
    refine AWp_seq ?_
    refine AWp_E rfl ?_
    rcases Decidable.em (((k : Nat) : Int) < ((m.tn : Nat) : Int)) with hc29 | hc29
    ·
     refine ed yes rfl rfl (dv_bin rfl rfl (bi_lss_t hc29)) ?_
     refine E_nil ?_
     refine th_norm ?_
     refine AWp_seq ?_
     refine AWp_cond (t := true) rfl (fun _ => ?_) nofun
     refine AWp_skip ?_
     refine th_norm ?_
     refine AWp_seq ?_
     refine AWp_block ?_
     refine AWp_seq ?_
     refine AWp_E rfl ?_
     refine ed (iv ((k : Nat) : Int)) rfl rfl (dv_move rfl) ?_
     refine ed (iv ((k : Nat) : Int)) rfl rfl (dv_assign rfl) ?_
     refine E_nil ?_
     refine th_norm ?_
     refine AWp_seq ?_
     refine AWp_E rfl ?_
     refine ed (pt m_p m_o) rfl rfl (dv_move rfl) ?_
     refine ed (pt m_p m_o) rfl rfl (dv_nilCheck rfl) ?_
     refine ed (pt m_p (m_o + 1)) rfl rfl (dv_fieldAddr rfl rfl) ?_
     refine ed (sv m.ta m.tn m.tc) rfl rfl (dv_load rfl (ld_pv (off := 1) (hmpv.keep hS.keep) rfl rfl rfl)) ?_
     refine ed (iv ((k : Nat) : Int)) rfl rfl (dv_move rfl) ?_
     obtain ⟨x30, hx30⟩ := get_el (xs := m.ts) (i := k) (by omega)
     have hv31 := hm_ts.el hx30
     have hv31l := hv31.2
     refine ed (sp m.ta (k * 1)) rfl rfl (dv_indexAddr (a := sv m.ta m.tn m.tc) (b := iv ((k : Nat) : Int)) rfl rfl (ix_sls (n := m.tn) (i := k) (hm_ts.1.keep hS.keep) hx30 rfl rfl rfl (by omega))) ?_
     refine ed (sv x30.a x30.xs.length x30.c) rfl rfl (dv_load rfl (ld_sls (sz := 1) (off := 0) (hm_ts.1.keep hS.keep) hx30 (fun _ => rfl) rfl rfl rfl)) ?_
     refine ed (iv e16.1) rfl rfl (dv_move rfl) ?_
     refine ed (iv e16.2) rfl rfl (dv_move rfl) ?_
     refine E_call (vs := [sv x30.a x30.xs.length x30.c, iv e16.1, iv e16.2]) rfl rfl rfl rfl rfl rfl rfl (l03Third_ok x30.a x30.xs.length x30.c x30.xs e16.1 e16.2 m.pn _ ⟨(hv31.1.keep hS.keep), rfl, hv31.2⟩ (by first | assumption | omega | exact meshP_row hmm (by assumption)) (by first | assumption | omega | exact meshP_row hmm (by assumption))) ?_
     rintro _ H (⟨v32, h33, h34, rfl, rfl, hQ⟩ | ⟨v35, h36, rfl, rfl, hQ⟩)
     ·
      have hS := hS.up hQ.keep
      refine ed (iv (thirdOf x30.xs e16.1 e16.2)) rfl rfl (dv_assign rfl) ?_
      refine E_nil ?_
      refine th_norm ?_
      refine AWp_seq ?_
      refine AWp_E rfl ?_
      refine ed (iv (thirdOf x30.xs e16.1 e16.2)) rfl rfl (dv_move rfl) ?_
      rcases Decidable.em ((0 : Int) ≤ thirdOf x30.xs e16.1 e16.2) with hc37 | hc37
      ·
       refine ed yes rfl rfl (dv_bin rfl rfl (bi_geq_t hc37)) ?_
       refine E_nil ?_
       refine th_norm ?_
       refine AWp_cond (t := true) rfl (fun _ => ?_) nofun
       refine AWp_E rfl ?_
       refine ed (sv ra r.length rc) rfl rfl (dv_move rfl) ?_
       refine ed (iv (thirdOf x30.xs e16.1 e16.2)) rfl rfl (dv_move rfl) ?_
       refine S_lit (sz := 1) (enc := encI) (xs := ([thirdOf x30.xs e16.1 e16.2] : List (Int))) (n := 1) hS rfl rfl rfl rfl rfl rfl rfl rfl fun a38 H hS => ?_
       refine S_append (k := 4) (bytes := 8) (enc := encI) (xs := r) (ys := ([thirdOf x30.xs e16.1 e16.2] : List (Int))) hS rfl rfl rfl rfl rfl rfl rfl rfl rfl rfl (fun _ => rfl) (fun _ => rfl) rfl rfl rfl rfl (hS.sls 5 rfl) (by omega) (by omega) fun a39 c40 x41 H hx42 hn43 hS => ?_
       refine ed (sv a39 x41.length c40) rfl rfl (dv_assign rfl) ?_
       refine E_nil ?_
       refine bl_norm ?_
       refine th_norm ?_
       refine AWp_E rfl ?_
       refine ed (iv ((k + 1 : Nat) : Int)) rfl rfl (dv_bin rfl rfl (bi_add (by omega))) ?_
       refine ed (iv ((k + 1 : Nat) : Int)) rfl rfl (dv_move rfl) ?_
       refine E_nil ?_
       refine loop_next (I := I23) (m.tn - (k + 1)) (by rw [hm26]; omega) ?_
       rw [hI23]
       refine ⟨a39, c40, x41, k + 1, rfl, (all_c rfl (all_c rfl (all_c rfl (all_c rfl (all_c rfl (all_c rfl (all_c rfl (all_c rfl (all_c rfl (all_c rfl (all_c rfl (all_c rfl (all_c rfl (all_c rfl (all_c rfl (all_c rfl (all_c rfl (all_c rfl (all_c rfl (all_c rfl (all_c rfl (all_c rfl (all_c rfl (all_c rfl (all_c rfl (all_c rfl (all_c rfl (all_c rfl (all_c rfl (all_c rfl (all_c rfl (all_c rfl (all_c rfl (all_c rfl (all_c rfl (all_c rfl (all_c rfl all_n))))))))))))))))))))))))))))))))))))), (hS.pick [0, 1, 2, 3, 4] rfl), ?_, ?_⟩
       · omega
       · rw [thirds_step (map_get (f := Row.xs) hx30)]
         rw [if_pos h33, ← List.append_assoc, ← hr]; exact hx42
      ·
       exfalso; omega
     ·
      have hS := hS.up hQ.keep
      refine ed (iv (-1)) rfl rfl (dv_assign rfl) ?_
      refine E_nil ?_
      refine th_norm ?_
      refine AWp_seq ?_
      refine AWp_E rfl ?_
      refine ed (iv (-1)) rfl rfl (dv_move rfl) ?_
      refine ed no rfl rfl (dv_bin rfl rfl (bi_geq_f (by decide))) ?_
      refine E_nil ?_
      refine th_norm ?_
      refine AWp_cond (t := false) rfl nofun (fun _ => ?_)
      refine AWp_skip ?_
      refine bl_norm ?_
      refine th_norm ?_
      refine AWp_E rfl ?_
      refine ed (iv ((k + 1 : Nat) : Int)) rfl rfl (dv_bin rfl rfl (bi_add (by omega))) ?_
      refine ed (iv ((k + 1 : Nat) : Int)) rfl rfl (dv_move rfl) ?_
      refine E_nil ?_
      refine loop_next (I := I23) (m.tn - (k + 1)) (by rw [hm26]; omega) ?_
      rw [hI23]
      refine ⟨ra, rc, r, k + 1, rfl, (all_c rfl (all_c rfl (all_c rfl (all_c rfl (all_c rfl (all_c rfl (all_c rfl (all_c rfl (all_c rfl (all_c rfl (all_c rfl (all_c rfl (all_c rfl (all_c rfl (all_c rfl (all_c rfl (all_c rfl (all_c rfl (all_c rfl (all_c rfl (all_c rfl (all_c rfl (all_c rfl (all_c rfl (all_c rfl (all_c rfl (all_c rfl (all_c rfl (all_c rfl (all_c rfl (all_c rfl (all_c rfl (all_c rfl (all_c rfl (all_c rfl (all_c rfl (all_c rfl all_n))))))))))))))))))))))))))))))))))))), hS, ?_, ?_⟩
      · omega
      · rw [thirds_step (map_get (f := Row.xs) hx30)]
        rw [if_neg h36, List.append_nil]; exact hr
    ·
     refine ed no rfl rfl (dv_bin rfl rfl (bi_lss_f hc29)) ?_
     refine E_nil ?_
     refine th_norm ?_
     refine AWp_seq ?_
     refine AWp_cond (t := false) rfl nofun (fun _ => ?_)
     refine AWp_exit (th_exit (th_exit (bl_exit (?_))))
     refine th_norm ?_
     refine AWp_seq ?_
     refine AWp_E rfl ?_
     refine ed (sv ra r.length rc) rfl rfl (dv_move rfl) ?_
     refine ed (iv ((r.length : Nat) : Int)) rfl rfl (dv_len rfl rfl rfl rfl rfl) ?_
     rcases Decidable.em (((r.length : Nat) : Int) = 4) with hc44 | hc44
     ·
      refine ed yes rfl rfl (dv_bin rfl rfl (bi_eql_t hc44)) ?_
      refine E_nil ?_
      refine th_norm ?_
      refine AWp_cond (t := true) rfl (fun _ => ?_) nofun
      refine AWp_E rfl ?_
      refine ed (sv wa w.length wc) rfl rfl (dv_move rfl) ?_
      refine ed (sv ra r.length rc) rfl rfl (dv_move rfl) ?_
      refine S_lit (sz := 1) (enc := encR) (xs := ([(⟨ra, rc, r⟩ : Row)] : List (Row))) (n := 1) hS rfl rfl rfl rfl rfl rfl rfl rfl fun a45 H hS => ?_
      refine S_append (k := 0) (bytes := 24) (enc := encR) (xs := w) (ys := ([(⟨ra, rc, r⟩ : Row)] : List (Row))) hS rfl rfl rfl rfl rfl rfl rfl rfl rfl rfl (fun _ => rfl) (fun _ => rfl) rfl rfl rfl rfl (hS.sls 5 rfl) (by omega) (by omega) fun a46 c47 x48 H hx49 hn50 hS => ?_
      refine ed (sv a46 x48.length c47) rfl rfl (dv_assign rfl) ?_
      refine E_nil ?_
      refine bl_norm ?_
      refine th_norm ?_
      refine AWp_E rfl ?_
      refine ed (iv ((i + 1 : Nat) : Int)) rfl rfl (dv_bin rfl rfl (bi_add (by omega))) ?_
      refine ed (iv ((i + 1 : Nat) : Int)) rfl rfl (dv_move rfl) ?_
      refine E_nil ?_
      have hS := hS.join (f := rowE1 2) (q := (⟨ra, rc, r⟩ : Row)) 3 4 rfl rfl rfl
      rw [← hx49] at hS
      have hlj : ∀ q ∈ x48, q.xs.length ≤ 1048576 := by
        rw [hx49]
        intro q hq
        rcases List.mem_append.1 hq with hq | hq
        · exact hwl q hq
        · rw [List.mem_singleton.1 hq]; dsimp only; omega
      refine loop_next (I := I8) ((edgeList m.ps.length (rxs m.ts)).length - (i + 1)) (by rw [hm11]; omega) ?_
      rw [hI8]
      refine ⟨a46, c47, x48, i + 1, rfl, (all_c rfl (all_c rfl (all_c rfl (all_c rfl (all_c rfl (all_c rfl (all_c rfl (all_c rfl (all_c rfl (all_c rfl all_n)))))))))), (hS.pick [0, 1, 2, 4] rfl), ?_, ?_, ?_⟩
      · omega
      · have hke : (rxs m.ts).take k = rxs m.ts := List.take_of_length_le (by rw [rxs, List.length_map]; omega)
        rw [hke] at hr
        rw [hingesTo_step he17]
        unfold hingeAt
        have hrl2 : r.length = 2 + (thirds (rxs m.ts) e16).length := by rw [hr]; simp only [List.length_append, List.length_cons, List.length_nil]
        rw [if_pos (by omega), hx49, rxs, List.map_append, ← rxs, hw, hr]; rfl
      · exact hlj
     ·
      refine ed no rfl rfl (dv_bin rfl rfl (bi_eql_f hc44)) ?_
      refine E_nil ?_
      refine th_norm ?_
      refine AWp_cond (t := false) rfl nofun (fun _ => ?_)
      refine AWp_skip ?_
      refine bl_norm ?_
      refine th_norm ?_
      refine AWp_E rfl ?_
      refine ed (iv ((i + 1 : Nat) : Int)) rfl rfl (dv_bin rfl rfl (bi_add (by omega))) ?_
      refine ed (iv ((i + 1 : Nat) : Int)) rfl rfl (dv_move rfl) ?_
      refine E_nil ?_
      refine loop_next (I := I8) ((edgeList m.ps.length (rxs m.ts)).length - (i + 1)) (by rw [hm11]; omega) ?_
      rw [hI8]
      refine ⟨wa, wc, w, i + 1, rfl, (all_c rfl (all_c rfl (all_c rfl (all_c rfl (all_c rfl (all_c rfl (all_c rfl (all_c rfl (all_c rfl (all_c rfl all_n)))))))))), (hS.pick [0, 1, 2, 3] rfl), ?_, ?_, ?_⟩
      · omega
      · have hke : (rxs m.ts).take k = rxs m.ts := List.take_of_length_le (by rw [rxs, List.length_map]; omega)
        rw [hke] at hr
        rw [hingesTo_step he17]
        unfold hingeAt
        have hrl2 : r.length = 2 + (thirds (rxs m.ts) e16).length := by rw [hr]; simp only [List.length_append, List.length_cons, List.length_nil]
        rw [if_neg (by omega), List.append_nil]; exact hw
      · exact hwl
  ·
   refine ed no rfl rfl (dv_bin rfl rfl (bi_lss_f hc14)) ?_
   refine E_nil ?_
   refine th_norm ?_
   refine AWp_seq ?_
   refine AWp_cond (t := false) rfl nofun (fun _ => ?_)
   refine AWp_exit (th_exit (th_exit (bl_exit (?_))))
   refine th_norm ?_
   refine AWp_seq ?_
   refine AWp_E rfl ?_
   refine ed (sv wa w.length wc) rfl rfl (dv_move rfl) ?_
   refine ed (sv wa w.length wc) rfl rfl (dv_assign rfl) ?_
   refine E_nil ?_
   refine th_norm ?_
   refine AWp_ret (?_)
   refine ret_of ?_
   refine readsRes_of (rs := [.tmp 2]) (vs := [sv wa w.length wc]) rfl (re_cons (re_tmp rfl) (re_nil)) rfl ?_
   refine ⟨wa, w.length, wc, w, ?_, rfl, ?_, rfl, hS.pick [0, 3] rfl⟩
   · rw [hw]; unfold hingesTo hingesD; rw [List.take_of_length_le (by omega)]
   · exact hwl
end Go.Ab

set_option maxRecDepth 100000
set_option maxHeartbeats 4000000
namespace Go.Ab
open Go.Proofs
theorem thirdOfI_ok (t_a : Option Addr) (t_n t_c : Nat) (t : List (Int)) (e : Int × Int) (n : Nat) (H : AH) (ht : VS H encI t_a t_n t) (ht0 : triP t n) (hn : n ≤ 1048576) (he : 0 ≤ e.1 ∧ e.1 < n ∧ 0 ≤ e.2 ∧ e.2 < n) : ACalls Tryz.prog 146 [sv t_a t_n t_c, .agg #[iv e.1, iv e.2]] H
  (fun r H' => ∃ (v_ : Int), thirdOf t e.1 e.2 = v_ ∧ r = iv v_ ∧ SepL H [] H') := by
 refine ACalls_of Tryz.func146 rfl (Nat.le_of_ble_eq_true rfl) ?_
 obtain ⟨H0, hH0⟩ : ∃ H0, H0 = H := ⟨_, rfl⟩
 have hS : SepL H0 [] H := hH0 ▸ SepL.refl H
 subst hH0
 obtain ⟨ht_s, ht_n, ht_b⟩ := id ht
 have hl3 := ht0.1
 unfold triP inP at ht0
 refine AWp_seq ?_
 refine AWp_E rfl ?_
 refine S_box (l := [iv e.1, iv e.2]) hS rfl rfl rfl rfl rfl fun b1 H hS => ?_
 refine ed (iv 0) rfl rfl (dv_assign rfl) ?_
 refine E_nil ?_
 refine th_norm ?_
 refine AWp_seq ?_
 have hR := hS.pushes
 have hKb := hS.keep
 have hB := fun Hc (hc : Keep _ Hc) => hR [] Hc (.base hc)
 refine AWp_D0 rfl (by decide +kernel) fun hM => ?_
 refine wd (sv t_a t_n t_c) rfl rfl (fun _ hc => dv_move rfl) ?_
 obtain ⟨x2, hx2⟩ := get_el (xs := t) (i := 0) (by omega)
 have g0 := getD_of hx2
 refine wd (sp t_a (0 * 1)) rfl rfl (fun _ hc => dv_indexAddr (a := sv t_a t_n t_c) (b := iv 0) rfl rfl (ix_sls (n := t_n) (i := 0) (ht_s.keep (hKb.trans hc)) hx2 rfl rfl rfl (by omega))) ?_
 refine wd (iv x2) rfl rfl (fun _ hc => dv_load rfl (ld_sls (sz := 1) (off := 0) (ht_s.keep (hKb.trans hc)) hx2 (fun _ => rfl) rfl rfl rfl)) ?_
 refine wd (sv t_a t_n t_c) rfl rfl (fun _ hc => dv_move rfl) ?_
 obtain ⟨x3, hx3⟩ := get_el (xs := t) (i := 1) (by omega)
 have g1 := getD_of hx3
 refine wd (sp t_a (1 * 1)) rfl rfl (fun _ hc => dv_indexAddr (a := sv t_a t_n t_c) (b := iv 1) rfl rfl (ix_sls (n := t_n) (i := 1) (ht_s.keep (hKb.trans hc)) hx3 rfl rfl rfl (by omega))) ?_
 refine wd (iv x3) rfl rfl (fun _ hc => dv_load rfl (ld_sls (sz := 1) (off := 0) (ht_s.keep (hKb.trans hc)) hx3 (fun _ => rfl) rfl rfl rfl)) ?_
 refine wd (iv (x2 + x3)) rfl rfl (fun _ hc => dv_bin rfl rfl (bi_add (by omega))) ?_
 refine wd (sv t_a t_n t_c) rfl rfl (fun _ hc => dv_move rfl) ?_
 obtain ⟨x4, hx4⟩ := get_el (xs := t) (i := 2) (by omega)
 have g2 := getD_of hx4
 refine wd (sp t_a (2 * 1)) rfl rfl (fun _ hc => dv_indexAddr (a := sv t_a t_n t_c) (b := iv 2) rfl rfl (ix_sls (n := t_n) (i := 2) (ht_s.keep (hKb.trans hc)) hx4 rfl rfl rfl (by omega))) ?_
 refine wd (iv x4) rfl rfl (fun _ hc => dv_load rfl (ld_sls (sz := 1) (off := 0) (ht_s.keep (hKb.trans hc)) hx4 (fun _ => rfl) rfl rfl rfl)) ?_
 refine wd (iv ((x2 + x3) + x4)) rfl rfl (fun _ hc => dv_bin rfl rfl (bi_add (by omega))) ?_
 refine wd (pt b1 0) rfl rfl (fun _ hc => dv_indexAddr (a := pt b1 0) (b := iv 0) rfl rfl rfl) ?_
 refine wd (iv e.1) rfl rfl (fun _ hc => dv_load rfl (ld_box ((hB _ hc).box 0 rfl) rfl rfl rfl)) ?_
 refine wd (iv (((x2 + x3) + x4) - e.1)) rfl rfl (fun _ hc => dv_bin rfl rfl (bi_sub (by omega))) ?_
 refine wd (pt b1 1) rfl rfl (fun _ hc => dv_indexAddr (a := pt b1 0) (b := iv 1) rfl rfl rfl) ?_
 refine wd (iv e.2) rfl rfl (fun _ hc => dv_load rfl (ld_box ((hB _ hc).box 0 rfl) rfl rfl rfl)) ?_
 refine wd (iv ((((x2 + x3) + x4) - e.1) - e.2)) rfl rfl (fun _ hc => dv_bin rfl rfl (bi_sub (by omega))) ?_
 refine wd (iv ((((x2 + x3) + x4) - e.1) - e.2)) rfl rfl (fun _ hc => dv_assign rfl) ?_
 have hS := hR _ _ hM
 refine W_nil ?_
 refine th_norm ?_
 refine AWp_ret (?_)
 refine ret_of ?_
 refine readsRes_of (rs := [.tmp 4]) (vs := [iv ((((x2 + x3) + x4) - e.1) - e.2)]) rfl (re_cons (re_tmp rfl) (re_nil)) rfl ?_
 refine ⟨((((x2 + x3) + x4) - e.1) - e.2), ?_, rfl, .base hS.keep⟩
 · unfold thirdOf; omega
theorem hingesOf_ok (m : LM) (H : AH) (hm : m.ok H) (hm0 : meshP m.ps.length (rxs m.ts)) : ACalls Tryz.prog 127 [mva m] H
  (fun r H' => ∃ (x_a : Option Addr), ∃ (x_n : Nat), ∃ (x_c : Nat), ∃ (x_ : List Row), rxs x_ = hingesD m.ps.length (rxs m.ts) ∧ x_.length = x_n ∧ (∀ q ∈ x_, q.xs.length ≤ 1048576) ∧ r = sv x_a x_n x_c ∧ SepL H [sl encR 53 1 x_a x_c x_, rowsE 2 x_] H') := by
 refine ACalls_of Tryz.func127 rfl (Nat.le_of_ble_eq_true rfl) ?_
 obtain ⟨H0, hH0⟩ : ∃ H0, H0 = H := ⟨_, rfl⟩
 have hS : SepL H0 [] H := hH0 ▸ SepL.refl H
 subst hH0
 obtain ⟨⟨hm_ps, hm_pn, hm_pb⟩, hm_ts, hm_tn, hm_tb⟩ := id hm
 have hmm : meshP m.pn (rxs m.ts) := hm_pn ▸ hm0
 refine AWp_seq ?_
 refine AWp_E rfl ?_
 refine S_box (l := [sv m.pa m.pn m.pc, sv m.ta m.tn m.tc]) hS rfl rfl rfl rfl rfl fun b1 H hS => ?_
 refine ed (sv none 0 0) rfl rfl (dv_assign rfl) ?_
 refine E_nil ?_
 refine th_norm ?_
 refine AWp_seq ?_
 refine AWp_E rfl ?_
 refine S_lit (sz := 1) (enc := encR) (xs := ([] : List Row)) (n := 0) hS rfl rfl rfl rfl rfl rfl rfl rfl fun a2 H hS => ?_
 refine ed (sv a2 0 0) rfl rfl (dv_assign rfl) ?_
 refine E_nil ?_
 refine th_norm ?_
 refine AWp_seq ?_
 refine AWp_E rfl ?_
 refine ed (mva m) rfl rfl (dv_load rfl (ld_boxA (n := 2) (hS.box 0 rfl) rfl rfl (Nat.le_of_ble_eq_true rfl) rfl)) ?_
 refine E_call (vs := [mva m]) rfl rfl rfl rfl rfl rfl rfl (trianglesByEdge_ok m _ (hm.keep hS.keep) hm0) ?_
 rintro _ H ⟨kv3, mb4, x5, x6, x7, x8, h9, h10, rfl, rfl, hQ⟩
 have hlh10 := congrArg List.length h10
 have hS := hS.push hQ
 refine ed (.tuple #[.map (some mb4), sv x5 x8.length x7]) rfl rfl (dv_move rfl) ?_
 refine ed (.map (some mb4)) rfl rfl (dv_extract rfl rfl) ?_
 refine ed (sv x5 x8.length x7) rfl rfl (dv_extract rfl rfl) ?_
 refine ed (.map (some mb4)) rfl rfl (dv_assign rfl) ?_
 refine ed (sv x5 x8.length x7) rfl rfl (dv_assign rfl) ?_
 refine E_nil ?_
 refine th_norm ?_
 refine AWp_seq ?_
 refine AWp_seq ?_
 refine AWp_E rfl ?_
 refine ed (sv x5 x8.length x7) rfl rfl (dv_move rfl) ?_
 refine ed (iv ((x8.length : Nat) : Int)) rfl rfl (dv_len rfl rfl rfl rfl rfl) ?_
 refine ed (iv 0) rfl rfl (dv_move rfl) ?_
 refine E_nil ?_
 refine th_norm ?_
 refine AWp_block ?_
 have hS := hS.zero (rowE1 2)
 have hel := edgeList_len m.ps.length (rxs m.ts) hm0.1
 rw [← h10] at hel
 have hmi := h9
 obtain ⟨I11, hI11⟩ : ∃ I : Nat → Env → AH → Prop, ∀ m_ e_ Hl, I m_ e_ Hl = (∃ (wa : Option Addr) (wc : Nat) (w : List (Row)) (i : Nat), m_ = 4200 - i ∧ AllE [(0, mva m), (1, pt b1 0), (2, sv none 0 0), (3, sv wa w.length wc), (4, .map (some mb4)), (5, sv x5 x8.length x7), (9, sv a2 0 0), (10, .tuple #[.map (some mb4), sv x5 x8.length x7]), (11, mva m), (12, .tuple #[.map (some mb4), sv x5 x8.length x7]), (13, .map (some mb4)), (14, sv x5 x8.length x7), (15, sv x5 x8.length x7), (16, iv ((x8.length : Nat) : Int)), (17, iv ((i : Nat) : Int))] e_ ∧ SepL H0 [box b1 [sv m.pa m.pn m.pc, sv m.ta m.tn m.tc] 39, sl encR 53 1 wa wc w, mapE mb4 (mkes kv3) kv3.length, rowsE 2 (kv3.map (·.2)), sl encE 159 2 x5 x7 x8, rowsE 2 w] Hl ∧ (i ≤ x8.length) ∧ (rxs w = hingesTo m.ps.length (rxs m.ts) i) ∧ (∀ q ∈ w, q.xs.length ≤ 1048576)) := ⟨_, fun _ _ _ => rfl⟩
 refine AWp_loop I11 (4200 - (0)) ?_ ?_
 ·
  rw [hI11]
  refine ⟨a2, 0, ([] : List Row), 0, rfl, (all_c rfl (all_c rfl (all_c rfl (all_c rfl (all_c rfl (all_c rfl (all_c rfl (all_c rfl (all_c rfl (all_c rfl (all_c rfl (all_c rfl (all_c rfl (all_c rfl (all_c rfl all_n))))))))))))))), hS, ?_, ?_, ?_⟩
  · omega
  · rfl
  · simp
 ·
  intro m12 _ H hl13
  rw [hI11] at hl13
  obtain ⟨wa, wc, w, i, hm14, he15, hS, hi, hw, hwl⟩ := hl13
  obtain ⟨e16, rfl⟩ := he15.ex
  have hwb := hingesTo_le m.ps.length (rxs m.ts) i
  rw [← hw, rxs, List.length_map] at hwb
  refine AWp_seq ?_
  refine AWp_E rfl ?_
  rcases Decidable.em (((i : Nat) : Int) < ((x8.length : Nat) : Int)) with hc17 | hc17
  ·
   refine ed yes rfl rfl (dv_bin rfl rfl (bi_lss_t hc17)) ?_
   refine E_nil ?_
   refine th_norm ?_
   refine AWp_seq ?_
   refine AWp_cond (t := true) rfl (fun _ => ?_) nofun
   refine AWp_skip ?_
   refine th_norm ?_
   refine AWp_seq ?_
   refine AWp_block ?_
   refine AWp_seq ?_
   refine AWp_E rfl ?_
   obtain ⟨x18, hx18⟩ := get_el (xs := x8) (i := i) (by omega)
   have hin := edge_in (n := m.ps.length) (ts := rxs m.ts) (e := x18) (by rw [← h10]; exact List.mem_of_getElem? hx18)
   refine ed (sp x5 (i * 2)) rfl rfl (dv_indexAddr (a := sv x5 x8.length x7) (b := iv ((i : Nat) : Int)) rfl rfl (ix_sls (n := x8.length) (i := i) (hS.sls 4 rfl) hx18 rfl rfl rfl (get_lt hx18))) ?_
   refine ed (.agg #[iv x18.1, iv x18.2]) rfl rfl (dv_load rfl (ld_slsA (sz := 2) (m := 2) (ys := [iv x18.1, iv x18.2]) (off := 0) (hS.sls 4 rfl) hx18 (fun _ => rfl) rfl rfl (Nat.le_of_ble_eq_true rfl) rfl)) ?_
   refine S_box (l := [iv 0, iv 0]) hS rfl rfl rfl rfl rfl fun b19 H hS => ?_
   refine S_store (i := 6) (yv := .agg #[iv x18.1, iv x18.2]) (l' := [iv x18.1, iv x18.2]) hS rfl rfl rfl rfl rfl rfl rfl rfl rfl rfl rfl rfl fun H hS => ?_
   refine E_nil ?_
   refine th_norm ?_
   refine AWp_seq ?_
   refine AWp_E rfl ?_
   refine ed (.map (some mb4)) rfl rfl (dv_move rfl) ?_
   refine ed (.agg #[iv x18.1, iv x18.2]) rfl rfl (dv_load rfl (ld_boxA (n := 2) (hS.box 6 rfl) rfl rfl (Nat.le_of_ble_eq_true rfl) rfl)) ?_
   refine S_lookupP (i := 2) (x := x18) (kvs := kv3) hS rfl rfl rfl rfl rfl pairMap154 rfl rfl (fun hno => ?_) (fun j qj hj => ?_)
   ·
    exfalso
    obtain ⟨p, hp, hpe⟩ := List.mem_map.1 ((pairs_fst (rxs m.ts)).symm ▸ (edgeList_mem hm0.2.2).1 (by rw [← h10]; exact List.mem_of_getElem? hx18) : x18 ∈ (pairs (rxs m.ts)).map (·.1))
    obtain ⟨j, q, hj⟩ := hmi.has p hp
    exact hno j q (by rw [← hpe]; exact hj)
   ·
    have hqv := hmi.val j _ qj hj
    refine ed (sv qj.a qj.xs.length qj.c) rfl rfl (dv_assign rfl) ?_
    refine E_nil ?_
    refine th_norm ?_
    refine AWp_seq ?_
    refine AWp_E rfl ?_
    refine ed (sv qj.a qj.xs.length qj.c) rfl rfl (dv_move rfl) ?_
    refine ed (iv ((qj.xs.length : Nat) : Int)) rfl rfl (dv_len rfl rfl rfl rfl rfl) ?_
    rcases Decidable.em (((qj.xs.length : Nat) : Int) = 2) with hc20 | hc20
    ·
     refine ed yes rfl rfl (dv_bin rfl rfl (bi_eql_t hc20)) ?_
     refine E_nil ?_
     refine th_norm ?_
     refine AWp_cond (t := true) rfl (fun _ => ?_) nofun
     obtain ⟨Hx, hK, hKx, hM, hR⟩ := hS.split [1] rfl
     have hB := fun Hc (hc : Keep Hx Hc) => hR [] Hc (.base hc)
     refine AWp_D hKx rfl (by decide +kernel) ?_
     refine wd (sv wa w.length wc) rfl rfl (fun _ hc => dv_move rfl) ?_
     refine wd (pt b19 0) rfl rfl (fun _ hc => dv_indexAddr (a := pt b19 0) (b := iv 0) rfl rfl rfl) ?_
     refine wd (iv x18.1) rfl rfl (fun _ hc => dv_load rfl (ld_box ((hB _ hc).box 5 rfl) rfl rfl rfl)) ?_
     refine wd (pt b19 1) rfl rfl (fun _ hc => dv_indexAddr (a := pt b19 0) (b := iv 1) rfl rfl rfl) ?_
     refine wd (iv x18.2) rfl rfl (fun _ hc => dv_load rfl (ld_box ((hB _ hc).box 5 rfl) rfl rfl rfl)) ?_
     refine wd (pt b1 1) rfl rfl (fun _ hc => dv_fieldAddr rfl rfl) ?_
     refine wd (sv m.ta m.tn m.tc) rfl rfl (fun _ hc => dv_load rfl (ld_box ((hB _ hc).box 0 rfl) rfl rfl rfl)) ?_
     refine wd (sv qj.a qj.xs.length qj.c) rfl rfl (fun _ hc => dv_move rfl) ?_
     obtain ⟨x21, hx21⟩ := get_el (xs := qj.xs) (i := 0) (by omega)
     have hti0 := trisOf_in hm0.2.2 hin.2.1 x21 (by rw [trisOf, ← hqv.1]; exact List.mem_of_getElem? hx21)
     rw [rxs, List.length_map] at hti0
     refine wd (sp qj.a (0 * 1)) rfl rfl (fun _ hc => dv_indexAddr (a := sv qj.a qj.xs.length qj.c) (b := iv 0) rfl rfl (ix_sls (n := qj.xs.length) (i := 0) (rowsE_sls ((hB _ hc).at (i := 2) rfl) (show _ = some qj from by rw [List.getElem?_map, hj]; rfl)) hx21 rfl rfl rfl (get_lt hx21))) ?_
     refine wd (iv x21) rfl rfl (fun _ hc => dv_load rfl (ld_sls (sz := 1) (off := 0) (rowsE_sls ((hB _ hc).at (i := 2) rfl) (show _ = some qj from by rw [List.getElem?_map, hj]; rfl)) hx21 (fun _ => rfl) rfl rfl rfl)) ?_
     obtain ⟨x22, hx22⟩ := get_el (xs := m.ts) (i := (x21).toNat) (by omega)
     have hv23 := hm_ts.el hx22
     have hv23l := hv23.2
     refine wd (sp m.ta (((x21).toNat) * 1)) rfl rfl (fun _ hc => dv_indexAddr (a := sv m.ta m.tn m.tc) (b := iv x21) rfl rfl (ix_sls (n := m.tn) (i := ((x21).toNat)) (hm_ts.1.keep (hK.trans hc)) hx22 rfl rfl (by omega) (by omega))) ?_
     refine wd (sv x22.a x22.xs.length x22.c) rfl rfl (fun _ hc => dv_load rfl (ld_sls (sz := 1) (off := 0) (hm_ts.1.keep (hK.trans hc)) hx22 (fun _ => rfl) rfl rfl rfl)) ?_
     refine wd (.agg #[iv x18.1, iv x18.2]) rfl rfl (fun _ hc => dv_load rfl (ld_boxA (n := 2) ((hB _ hc).box 5 rfl) rfl rfl (Nat.le_of_ble_eq_true rfl) rfl)) ?_
     refine W_call (vs := [sv x22.a x22.xs.length x22.c, .agg #[iv x18.1, iv x18.2]]) rfl rfl rfl rfl rfl rfl rfl (thirdOfI_ok x22.a x22.xs.length x22.c x22.xs x18 m.pn _ ⟨(hv23.1.keep (hK.trans hM.keep)), rfl, hv23.2⟩ (by first | assumption | omega | exact meshP_row hmm (by assumption)) (by first | assumption | omega | exact meshP_row hmm (by assumption)) (by first | assumption | omega | exact meshP_row hmm (by assumption))) ?_
     rintro _ H ⟨v24, rfl, rfl, hQ⟩
     have hM := hM.up hQ.keep
     refine ⟨hM.keep, ?_⟩
     refine wd (pt b1 1) rfl rfl (fun _ hc => dv_fieldAddr rfl rfl) ?_
     refine wd (sv m.ta m.tn m.tc) rfl rfl (fun _ hc => dv_load rfl (ld_box ((hB _ hc).box 0 rfl) rfl rfl rfl)) ?_
     refine wd (sv qj.a qj.xs.length qj.c) rfl rfl (fun _ hc => dv_move rfl) ?_
     obtain ⟨x25, hx25⟩ := get_el (xs := qj.xs) (i := 1) (by omega)
     have hti1 := trisOf_in hm0.2.2 hin.2.1 x25 (by rw [trisOf, ← hqv.1]; exact List.mem_of_getElem? hx25)
     rw [rxs, List.length_map] at hti1
     refine wd (sp qj.a (1 * 1)) rfl rfl (fun _ hc => dv_indexAddr (a := sv qj.a qj.xs.length qj.c) (b := iv 1) rfl rfl (ix_sls (n := qj.xs.length) (i := 1) (rowsE_sls ((hB _ hc).at (i := 2) rfl) (show _ = some qj from by rw [List.getElem?_map, hj]; rfl)) hx25 rfl rfl rfl (get_lt hx25))) ?_
     refine wd (iv x25) rfl rfl (fun _ hc => dv_load rfl (ld_sls (sz := 1) (off := 0) (rowsE_sls ((hB _ hc).at (i := 2) rfl) (show _ = some qj from by rw [List.getElem?_map, hj]; rfl)) hx25 (fun _ => rfl) rfl rfl rfl)) ?_
     obtain ⟨x26, hx26⟩ := get_el (xs := m.ts) (i := (x25).toNat) (by omega)
     have hv27 := hm_ts.el hx26
     have hv27l := hv27.2
     refine wd (sp m.ta (((x25).toNat) * 1)) rfl rfl (fun _ hc => dv_indexAddr (a := sv m.ta m.tn m.tc) (b := iv x25) rfl rfl (ix_sls (n := m.tn) (i := ((x25).toNat)) (hm_ts.1.keep (hK.trans hc)) hx26 rfl rfl (by omega) (by omega))) ?_
     refine wd (sv x26.a x26.xs.length x26.c) rfl rfl (fun _ hc => dv_load rfl (ld_sls (sz := 1) (off := 0) (hm_ts.1.keep (hK.trans hc)) hx26 (fun _ => rfl) rfl rfl rfl)) ?_
     refine wd (.agg #[iv x18.1, iv x18.2]) rfl rfl (fun _ hc => dv_load rfl (ld_boxA (n := 2) ((hB _ hc).box 5 rfl) rfl rfl (Nat.le_of_ble_eq_true rfl) rfl)) ?_
     refine W_call (vs := [sv x26.a x26.xs.length x26.c, .agg #[iv x18.1, iv x18.2]]) rfl rfl rfl rfl rfl rfl rfl (thirdOfI_ok x26.a x26.xs.length x26.c x26.xs x18 m.pn _ ⟨(hv27.1.keep (hK.trans hM.keep)), rfl, hv27.2⟩ (by first | assumption | omega | exact meshP_row hmm (by assumption)) (by first | assumption | omega | exact meshP_row hmm (by assumption)) (by first | assumption | omega | exact meshP_row hmm (by assumption))) ?_
     rintro _ H ⟨v28, rfl, rfl, hQ⟩
     have hM := hM.up hQ.keep
     refine ⟨hM.keep, ?_⟩
     refine D_lit (sz := 1) (enc := encI) (xs := ([x18.1, x18.2, thirdOf x22.xs x18.1 x18.2, thirdOf x26.xs x18.1 x18.2] : List (Int))) (n := 4) hM rfl rfl rfl rfl rfl rfl rfl rfl fun a29 H hM => ?_
     refine D_lit (sz := 1) (enc := encR) (xs := ([(⟨a29, 4, ([x18.1, x18.2, thirdOf x22.xs x18.1 x18.2, thirdOf x26.xs x18.1 x18.2] : List (Int))⟩ : Row)] : List (Row))) (n := 1) hM rfl rfl rfl rfl rfl rfl rfl rfl fun a30 H hM => ?_
     refine D_append (k := 0) (bytes := 24) (enc := encR) (xs := w) (ys := ([(⟨a29, 4, ([x18.1, x18.2, thirdOf x22.xs x18.1 x18.2, thirdOf x26.xs x18.1 x18.2] : List (Int))⟩ : Row)] : List (Row))) hM rfl rfl rfl rfl rfl rfl rfl rfl rfl rfl (fun _ => rfl) (fun _ => rfl) rfl rfl rfl rfl ((hR _ _ hM).sls 8 rfl) (by omega) (by omega) fun a31 c32 x33 H hx34 hn35 hM => ?_
     refine wd (sv a31 x33.length c32) rfl rfl (fun _ hc => dv_assign rfl) ?_
     have hS := hR _ _ hM
     refine W_nil ?_
     refine bl_norm ?_
     refine th_norm ?_
     refine AWp_E rfl ?_
     refine ed (iv ((i + 1 : Nat) : Int)) rfl rfl (dv_bin rfl rfl (bi_add (by omega))) ?_
     refine ed (iv ((i + 1 : Nat) : Int)) rfl rfl (dv_move rfl) ?_
     refine E_nil ?_
     have hS := hS.join (f := rowE1 2) (q := (⟨a29, 4, ([x18.1, x18.2, thirdOf x22.xs x18.1 x18.2, thirdOf x26.xs x18.1 x18.2] : List (Int))⟩ : Row)) 4 7 rfl rfl rfl
     rw [← hx34] at hS
     have hlj : ∀ q ∈ x33, q.xs.length ≤ 1048576 := by
       rw [hx34]
       intro q hq
       rcases List.mem_append.1 hq with hq | hq
       · exact hwl q hq
       · rw [List.mem_singleton.1 hq]; exact Nat.le_of_ble_eq_true rfl
     refine loop_next (I := I11) (4200 - (i + 1)) (by rw [hm14]; omega) ?_
     rw [hI11]
     refine ⟨a31, c32, x33, i + 1, rfl, (all_c rfl (all_c rfl (all_c rfl (all_c rfl (all_c rfl (all_c rfl (all_c rfl (all_c rfl (all_c rfl (all_c rfl (all_c rfl (all_c rfl (all_c rfl (all_c rfl (all_c rfl all_n))))))))))))))), (hS.pick [0, 5, 1, 2, 3, 7] rfl), ?_, ?_, ?_⟩
     · omega
     · rw [hingesTo_step (n := m.ps.length) (ts := rxs m.ts) (e := x18) (by rw [← h10]; exact hx18)]
       unfold hingeAt
       have hth := thirds_map hm0.2.2 (e := x18) hin.2.1
       rw [trisOf, ← hqv.1] at hth
       have hq2 : qj.xs = [x21, x25] := by
         match hqx : qj.xs, (show qj.xs.length = 2 by omega) with
         | [p, r], _ => rw [hqx] at hx21 hx25; simp only [List.getElem?_cons_zero, List.getElem?_cons_succ, Option.some.injEq] at hx21 hx25; rw [hx21, hx25]
       rw [hq2] at hth
       simp only [List.map_cons, List.map_nil] at hth
       rw [gD [] (map_get (f := Row.xs) hx22), gD [] (map_get (f := Row.xs) hx26)] at hth
       rw [if_pos (by rw [hth]; rfl), hx34, rxs, List.map_append, ← rxs, hw, hth]; rfl
     · exact hlj
    ·
     refine ed no rfl rfl (dv_bin rfl rfl (bi_eql_f hc20)) ?_
     refine E_nil ?_
     refine th_norm ?_
     refine AWp_cond (t := false) rfl nofun (fun _ => ?_)
     refine AWp_skip ?_
     refine bl_norm ?_
     refine th_norm ?_
     refine AWp_E rfl ?_
     refine ed (iv ((i + 1 : Nat) : Int)) rfl rfl (dv_bin rfl rfl (bi_add (by omega))) ?_
     refine ed (iv ((i + 1 : Nat) : Int)) rfl rfl (dv_move rfl) ?_
     refine E_nil ?_
     refine loop_next (I := I11) (4200 - (i + 1)) (by rw [hm14]; omega) ?_
     rw [hI11]
     refine ⟨wa, wc, w, i + 1, rfl, (all_c rfl (all_c rfl (all_c rfl (all_c rfl (all_c rfl (all_c rfl (all_c rfl (all_c rfl (all_c rfl (all_c rfl (all_c rfl (all_c rfl (all_c rfl (all_c rfl (all_c rfl all_n))))))))))))))), (hS.pick [0, 1, 2, 3, 4, 5] rfl), ?_, ?_, ?_⟩
     · omega
     · rw [hingesTo_step (n := m.ps.length) (ts := rxs m.ts) (e := x18) (by rw [← h10]; exact hx18)]
       unfold hingeAt
       have hth := thirds_map hm0.2.2 (e := x18) hin.2.1
       rw [trisOf, ← hqv.1] at hth
       rw [if_neg (by rw [hth, List.length_map]; omega), List.append_nil]; exact hw
     · exact hwl
  ·
   refine ed no rfl rfl (dv_bin rfl rfl (bi_lss_f hc17)) ?_
   refine E_nil ?_
   refine th_norm ?_
   refine AWp_seq ?_
   refine AWp_cond (t := false) rfl nofun (fun _ => ?_)
   refine AWp_exit (th_exit (th_exit (bl_exit (?_))))
   refine th_norm ?_
   refine AWp_seq ?_
   refine AWp_E rfl ?_
   refine ed (sv wa w.length wc) rfl rfl (dv_move rfl) ?_
   refine ed (sv wa w.length wc) rfl rfl (dv_assign rfl) ?_
   refine E_nil ?_
   refine th_norm ?_
   refine AWp_ret (?_)
   refine ret_of ?_
   refine readsRes_of (rs := [.tmp 2]) (vs := [sv wa w.length wc]) rfl (re_cons (re_tmp rfl) (re_nil)) rfl ?_
   refine ⟨wa, w.length, wc, w, ?_, rfl, ?_, rfl, hS.pick [1, 5] rfl⟩
   · rw [hw]; unfold hingesTo hingesD; rw [List.take_of_length_le (by rw [← h10]; omega)]
   · exact hwl
end Go.Ab

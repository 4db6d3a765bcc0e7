/- Walks through functions of the program: what each computes, told over that view of memory; each with the conditions that it tells. -/
import Derived.Test.YtpiidmgenkjiiaaGreatProg
import Derived.Test.YtpiidmgenkjiiaaGreatWb
import Derived.Test.YtpiidmgenkjiiaaGreatVc
import Derived.Shelf.SlSortCmp.NoneTotal
import Derived.Ground.SlsfProg
import Derived.Shelf.SlGeneric
set_option maxRecDepth 100000
set_option maxHeartbeats 4000000
namespace Go.Ab
open Go.Proofs
end Go.Ab
namespace Go.Proofs
open Go.Shelf Go.RowKit Go.Lib Go.Sort
def Tryz.sortE_ren : Go.Shelf.Ren := ⟨fun | 6 => 152 | 15 => 155 | 14 => 154 | 28 => 165 | 29 => 166 | 20 => 157 | 21 => 158 | 22 => 159 | 23 => 160 | 24 => 161 | 25 => 162 | 26 => 163 | 27 => 164 | 46 => 168 | 47 => 169 | 48 => 170 | 49 => 171 | 50 => 172 | 57 => 174 | n => n, fun | 22 => 155 | 24 => 159 | 25 => 165 | 3 => 3 | 39 => 168 | 0 => 0 | 53 => 179 | 55 => 181 | 4 => 4 | 46 => 172 | 45 => 171 | 50 => 176 | 5 => 5 | 9 => 9 | 66 => 183 | 70 => 187 | 76 => 190 | 77 => 191 | n => n, fun | n => n⟩
theorem Tryz.sortE : Go.Proofs.SlLaysF0.n6 Tryz.prog Tryz.sortE_ren := {
  mixed := by kernel_rfl
  f6 := ⟨Tryz.f152.name, by decide, Tryz.func152.trans (congrArg some (by kernel_rfl))⟩
  f14 := ⟨Tryz.f154.name, by decide, Tryz.func154.trans (congrArg some (by kernel_rfl))⟩
  f15 := Tryz.func155.trans (congrArg some (by kernel_rfl))
  f20 := ⟨Tryz.f157.name, by decide, Tryz.func157.trans (congrArg some (by kernel_rfl))⟩
  f21 := ⟨Tryz.f158.name, by decide, Tryz.func158.trans (congrArg some (by kernel_rfl))⟩
  f22 := ⟨Tryz.f159.name, by decide, Tryz.func159.trans (congrArg some (by kernel_rfl))⟩
  f23 := ⟨Tryz.f160.name, by decide, Tryz.func160.trans (congrArg some (by kernel_rfl))⟩
  f24 := ⟨Tryz.f161.name, by decide, Tryz.func161.trans (congrArg some (by kernel_rfl))⟩
  f25 := ⟨Tryz.f162.name, by decide, Tryz.func162.trans (congrArg some (by kernel_rfl))⟩
  f26 := ⟨Tryz.f163.name, by decide, Tryz.func163.trans (congrArg some (by kernel_rfl))⟩
  f27 := ⟨Tryz.f164.name, by decide, Tryz.func164.trans (congrArg some (by kernel_rfl))⟩
  f28 := Tryz.func165.trans (congrArg some (by kernel_rfl))
  f29 := Tryz.func166.trans (congrArg some (by kernel_rfl))
  f46 := ⟨Tryz.f168.name, by decide, Tryz.func168.trans (congrArg some (by kernel_rfl))⟩
  f47 := Tryz.func169.trans (congrArg some (by kernel_rfl))
  f48 := Tryz.func170.trans (congrArg some (by kernel_rfl))
  f49 := ⟨Tryz.f171.name, by decide, Tryz.func171.trans (congrArg some (by kernel_rfl))⟩
  f50 := ⟨Tryz.f172.name, by decide, Tryz.func172.trans (congrArg some (by kernel_rfl))⟩
  f57 := ⟨Tryz.f174.name, by decide, Tryz.func174.trans (congrArg some (by kernel_rfl))⟩
  t0 := Tryz.underlying0
  a0 := Tryz.isAgg0
  z0 := Tryz.sizeOf0
  v0 := Tryz.zeroValue0
  t3 := Tryz.underlying3
  a3 := Tryz.isAgg3
  z3 := Tryz.sizeOf3
  v3 := Tryz.zeroValue3
  t4 := Tryz.underlying4
  a4 := Tryz.isAgg4
  z4 := Tryz.sizeOf4
  v4 := Tryz.zeroValue4
  t5 := Tryz.underlying5
  a5 := Tryz.isAgg5
  z5 := Tryz.sizeOf5
  v5 := Tryz.zeroValue5
  t9 := Tryz.underlying9
  a9 := Tryz.isAgg9
  z9 := Tryz.sizeOf9
  v9 := Tryz.zeroValue9
  t22 := Tryz.underlying155
  a22 := Tryz.isAgg155
  z22 := Tryz.sizeOf155
  v22 := Tryz.zeroValue155
  t25 := Tryz.underlying165
  a25 := Tryz.isAgg165
  z25 := Tryz.sizeOf165
  v25 := Tryz.zeroValue165
  t39 := Tryz.underlying168
  a39 := Tryz.isAgg168
  z39 := Tryz.sizeOf168
  v39 := Tryz.zeroValue168
  t45 := Tryz.underlying171
  a45 := Tryz.isAgg171
  z45 := Tryz.sizeOf171
  v45 := Tryz.zeroValue171
  t46 := Tryz.underlying172
  a46 := Tryz.isAgg172
  z46 := Tryz.sizeOf172
  v46 := Tryz.zeroValue172
  t50 := Tryz.underlying176
  a50 := Tryz.isAgg176
  z50 := Tryz.sizeOf176
  v50 := Tryz.zeroValue176
  t53 := Tryz.underlying179
  a53 := Tryz.isAgg179
  z53 := Tryz.sizeOf179
  v53 := Tryz.zeroValue179
  t55 := Tryz.underlying181
  a55 := Tryz.isAgg181
  z55 := Tryz.sizeOf181
  v55 := Tryz.zeroValue181
  t66 := Tryz.underlying183
  a66 := Tryz.isAgg183
  z66 := Tryz.sizeOf183
  v66 := Tryz.zeroValue183
  t70 := Tryz.underlying187
  a70 := Tryz.isAgg187
  z70 := Tryz.sizeOf187
  v70 := Tryz.zeroValue187
  t76 := Tryz.underlying190
  a76 := Tryz.isAgg190
  z76 := Tryz.sizeOf190
  v76 := Tryz.zeroValue190
  t77 := Tryz.underlying191
  a77 := Tryz.isAgg191
  z77 := Tryz.sizeOf191
  v77 := Tryz.zeroValue191 }
end Go.Proofs
namespace Go.Ab
open Go.Proofs Go.Sort
theorem L_grow {w w' : World} {H' : AH} (l : L (fun _ => none) w H' w') : ∃ q os', w' = grow (w.drewN q) os' := by
  refine ⟨w'.drawn - w.drawn, w'.heap.extract w.heap.size w'.heap.size, ?_⟩
  have hh : w'.heap = w.heap ++ w'.heap.extract w.heap.size w'.heap.size := by
    apply Array.ext_getElem?
    intro i
    by_cases hi : i < w.heap.size
    · rw [Array.getElem?_append_left hi, (l.far i hi rfl).1]
    · rw [Array.getElem?_append_right (by omega), Array.getElem?_extract]
      split
      · congr 1; omega
      · rw [Array.getElem?_eq_none (by omega)]
  have h1 := l.os
  have h2 := l.tape
  have h3 := l.output
  have h4 := l.dr
  show w' = { (w.drewN (w'.drawn - w.drawn)) with heap := w.heap ++ w'.heap.extract w.heap.size w'.heap.size }
  rw [← hh]
  have h5 : w.drawn + (w'.drawn - w.drawn) = w'.drawn := by omega
  show w' = { heap := w'.heap, tape := w.tape, drawn := w.drawn + (w'.drawn - w.drawn), os := w.os, output := w.output }
  rw [h5, ← h1, ← h2, ← h3]
theorem cmpE (blk off size : Nat) (w : World) : CmpLays Tryz.prog 153 #[] encE 2 ecmp blk off size w := fun m os dk _ x y => by
  have h := compareEdges_ok x y (fun _ => none) (sortWorldK encE 2 w blk off m dk os) (#[.agg (encE x).toArray, .agg (encE y).toArray] ++ #[]) (fun b blk hb => by cases hb) (by simp [encE, cv, cv2, cv1])
  refine h.mono fun e w' ⟨v, H', he, hR, _, hl⟩ => ?_
  obtain ⟨z, hz, hv, _⟩ := hR
  have hv' : v = .int .i64 (ecmp x y) := by rw [hz]; exact cv_plain hv rfl
  exact ⟨by rw [he, hv'], L_grow hl⟩
theorem ltE (x y : Int × Int) : ltOf ecmp x y = true ↔ eltQ x y := by
  unfold ltOf ecmp icmp eltQ
  rw [decide_eq_true_iff]
  split <;> (try split) <;> (try split) <;> (try split) <;> omega
theorem swoE : SWO (ltOf ecmp) where
  irrefl x := by rw [Bool.eq_false_iff, ne_eq, ltE]; unfold eltQ; omega
  trans x y z h1 h2 := by rw [ltE] at *; unfold eltQ at *; omega
  ntrans x y z h1 h2 := by rw [Bool.eq_false_iff, ne_eq, ltE] at *; unfold eltQ at *; omega
theorem totE (x y : Int × Int) (h1 : ltOf ecmp x y = false) (h2 : ltOf ecmp y x = false) : x = y := by
  rw [Bool.eq_false_iff, ne_eq, ltE] at *
  unfold eltQ at *
  exact Prod.ext (by omega) (by omega)
theorem leE_eq : (fun x y : Int × Int => !(ltOf ecmp) y x) = leE := by
  funext x y
  unfold leE
  congr 1
  by_cases h : eltQ y x
  · rw [decide_eq_true h, (ltE y x).2 h]
  · rw [decide_eq_false h, Bool.eq_false_iff, ne_eq, ltE]; exact h
theorem sortEdges_ok (a_a : Option Addr) (a_n a_c : Nat) (a : List (Int × Int)) (Hb H : AH) (han : a.length = a_n) (hab : a_n ≤ 1048576) (hS : SepL Hb [sl encE 159 2 a_a a_c a] H) : ACalls Tryz.prog 152 [sv a_a a_n a_c, .func (.func 153) #[] #[]] H
    fun r H' => ∃ (y_ : List (Int × Int)), y_ = a.mergeSort leE ∧ y_.length = a.length ∧ r = .tuple #[] ∧ SepL Hb [sl encE 159 2 a_a a_c y_] H' := by
  subst han
  intro w cargs hr hc
  have hcargs : cargs = #[.slice a_a a.length a_c, .func (.func 153) #[] #[]] := by
    apply Array.ext'
    match hl : cargs.toList, hc with
    | [p, q], hc =>
      simp only [List.map_cons, List.map_nil, List.cons.injEq, and_true] at hc
      rw [cv_plain hc.1 rfl, cv_plain hc.2 rfl]
    | [], hc => simp at hc
    | [p], hc => simp at hc
    | p :: q :: r :: l, hc => simp at hc
  subst hcargs
  have ho := hS.ows 0 rfl
  rcases ho.cases with ⟨h1, h2, h3⟩ | ⟨b, h1, h2, h3, h4⟩
  · subst h1 h2 h3
    refine (AnyF.slices_SortFunc_none Tryz.sortE none 0 _ w).mono fun e w' ⟨he, hw⟩ => ?_
    subst hw
    exact ⟨_, H, he, ⟨[], by simp, rfl, by simp [cv], hS⟩, hr, L.refl _ _⟩
  · subst h1
    have eg : ∀ args w, (callFunc 153 args).run Tryz.prog w = .ok (.enter 153 args) w := enters_of Tryz.func153 (by kernel_rfl) rfl
    have hp : ∀ x : Int × Int, ∀ v ∈ encE x, plain v = true := fun x v hv => by simp only [encE, List.mem_cons, List.not_mem_nil, or_false] at hv; rcases hv with rfl | rfl <;> rfl
    refine (AnyQ.slices_SortFunc_total Tryz.sortE 2 Tryz.isAgg159 Tryz.sizeOf159 encE (fun _ => rfl) (fun x v hv => by simp only [encE, List.mem_cons, List.not_mem_nil, or_false] at hv; rcases hv with rfl | rfl <;> rfl) ecmp swoE 153 #[] b 0 a_c a.toArray w eg (cmpE b 0 _ w) (sort_holds hr h2 (fun _ => rfl) hp) (hr.lt h2) (by simp; omega) totE).mono fun e w' ⟨he, n, os, hw⟩ => ?_
    subst hw
    have hlen : (a.mergeSort leE).length = a.length := List.length_mergeSort _
    obtain ⟨g1, g2⟩ := sort_bridge (ys := a.mergeSort leE) (m := n) (os := os) hr h2 (fun _ => rfl) hp hlen
    rw [leE_eq]
    refine ⟨_, _, he, ⟨_, rfl, hlen, by simp [cv], ?_⟩, g1, g2⟩
    refine put_sl hS 0 rfl (Ows.mk' (by rw [flat_len (sz := 2) (fun _ => rfl)]) (upd_same _ _ _) (by rw [hlen]; exact h3) h4) (KeepX.upd _ _ _) fun _ h => .inl h.symm
end Go.Ab

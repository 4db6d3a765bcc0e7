/- The law FnExactEnergiesAlong holds for all arguments whose bulk is at most what the row says. It is proved over a view of memory in which all not-a-numbers are one value. No condition beside the row's own. -/
import Derived.Test.YtpiidmgenkjiiaaGreatBulk
import Derived.Test.YtpiidmgenkjiiaaGreatWz
import Derived.Test.YtpiidmgenkjiiaaGreatVd
import Derived.ChangeMaps5
set_option maxRecDepth 100000
set_option maxHeartbeats 4000000
namespace Go.Proofs.YtpiidmgenkjiiaaGreat.fnExactEnergiesAlong
open Go Go.Ab Go.ChangeShapes Go.WideShapes Go.ChangeAt Go.RowKit Go.Proofs
open Go.ChangeMaps (open_string shut_string)
theorem plain27 : Plain Tryz.prog 27 := .float Tryz.underlying27
theorem plain30 : Plain Tryz.prog 30 := .struct Tryz.underlying30 (by
  intro f hf
  simp only [List.mem_cons, List.not_mem_nil, or_false] at hf
  rcases hf with rfl | rfl | rfl
  · exact plain27
  · exact plain27
  · exact plain27)
theorem cells30 : Tryz.prog.cellsOf 30 = 3 := by kernel_rfl
theorem plain22 : Plain Tryz.prog 22 := .slice Tryz.underlying22 (by rw [cells30]; decide) plain30
theorem plain2 : Plain Tryz.prog 2 := .int Tryz.underlying2
theorem cells2 : Tryz.prog.cellsOf 2 = 1 := by kernel_rfl
theorem plain53 : Plain Tryz.prog 53 := .slice Tryz.underlying53 (by rw [cells2]; decide) plain2
theorem cells53 : Tryz.prog.cellsOf 53 = 1 := by kernel_rfl
theorem plain23 : Plain Tryz.prog 23 := .slice Tryz.underlying23 (by rw [cells53]; decide) plain53
theorem plain25 : Plain Tryz.prog 25 := .struct Tryz.underlying25 (by
  intro f hf
  simp only [List.mem_cons, List.not_mem_nil, or_false] at hf
  rcases hf with rfl | rfl
  · exact plain22
  · exact plain23)
theorem plain118 : Plain Tryz.prog 118 := .struct Tryz.underlying118 (by
  intro f hf
  simp only [List.mem_cons, List.not_mem_nil, or_false] at hf
  rcases hf with rfl | rfl | rfl | rfl
  · exact plain2
  · exact plain2
  · exact plain27
  · exact plain27)
theorem cells118 : Tryz.prog.cellsOf 118 = 4 := by kernel_rfl
theorem plain26 : Plain Tryz.prog 26 := .slice Tryz.underlying26 (by rw [cells118]; decide) plain118
theorem cells27 : Tryz.prog.cellsOf 27 = 1 := by kernel_rfl
theorem plain28 : Plain Tryz.prog 28 := .slice Tryz.underlying28 (by rw [cells27]; decide) plain27
theorem plain32 : Plain Tryz.prog 32 := .struct Tryz.underlying32 (by
  intro f hf
  simp only [List.mem_cons, List.not_mem_nil, or_false] at hf
  rcases hf with rfl | rfl | rfl | rfl | rfl | rfl
  · exact plain25
  · exact plain26
  · exact plain27
  · exact plain27
  · exact plain28
  · exact plain30)
theorem own : ownKnob Tryz.prog.godebug = none := by kernel_rfl
theorem allPlain : ∀ t ∈ Tryz.f3.params.toList, Plain Tryz.prog t := by
  intro t ht
  rw [Tryz.params3] at ht
  simp only [List.mem_cons, List.not_mem_nil, or_false] at ht
  rcases ht with rfl | rfl | rfl | rfl
  · exact plain32
  · exact plain22
  · exact plain27
  · exact plain2
theorem cells25 : Tryz.prog.cellsOf 25 = 2 := by kernel_rfl
theorem cells22 : Tryz.prog.cellsOf 22 = 1 := by kernel_rfl
theorem cells23 : Tryz.prog.cellsOf 23 = 1 := by kernel_rfl
theorem meshT25 : MeshT Tryz.prog 25 := ⟨⟨_, 22, 23, 30, 27, Tryz.underlying25, rfl, cells25, cells22, cells23, Tryz.underlying22, cells30, ⟨_, Tryz.underlying30, rfl, Tryz.underlying27, cells27⟩, 53, 2, Tryz.underlying23, cells53, Tryz.underlying53, cells2, Tryz.underlying2⟩⟩
theorem cells32 : Tryz.prog.cellsOf 32 = 9 := by kernel_rfl
theorem cells26 : Tryz.prog.cellsOf 26 = 1 := by kernel_rfl
theorem cells28 : Tryz.prog.cellsOf 28 = 1 := by kernel_rfl
theorem bodyT32 : BodyT Tryz.prog 32 := ⟨⟨_, 25, 26, 27, 28, 30, Tryz.underlying32, rfl, cells32, cells25, cells26, cells27, cells28, cells30, meshT25, Tryz.underlying27, Tryz.underlying28, ⟨_, Tryz.underlying30, rfl⟩, 118, 2, _, Tryz.underlying26, cells118, Tryz.underlying118, rfl, Tryz.underlying2, cells2⟩⟩
theorem contract (H : Type) (enc : TypeId × Value → H) (W : World) (base : Nat) (args : Array Value) (ds gs : List (DataW H)) (before : List MemPlace)
    (hval : ∀ (j : Nat) t v, Tryz.f3.params[j]? = some t → args[j]? = some v → Value.okWide Tryz.prog W .any base t v)
    (hW : DataW.Whole enc Tryz.prog Tryz.f3.params.toList Rows.fnExactEnergiesAlongSpec.vars false W args.toList ds gs before) (hk : Rows.uptoSmall H (ds ++ gs) = true) :
    Calls Tryz.prog 3 args W fun e W' => ∃ v, e = .returned v ∧ Rows.fnExactEnergiesAlongSpec.post enc Tryz.prog Tryz.f3 false true false false W args v W' := by
  have hW' := hW
  obtain ⟨p, q, hA0, hV, rfl, hfz, hnd⟩ := hW
  obtain ⟨rfl, rfl⟩ := trodVars_none hV
  have hA : DataW.TrodAll enc Tryz.prog W 0 (fun _ => true) true Tryz.f3.params.toList args.toList ds p := hA0
  rw [Tryz.params3] at hA hval
  obtain ⟨v0, vs0, d0, ds0, p0, q0, hargs, rfl, rfl, h0, r0⟩ := trodAll_cons hA
  obtain ⟨v1, vs1, d1, ds1, p1, q1, rfl, rfl, rfl, h1, r1⟩ := trodAll_cons r0
  obtain ⟨v2, vs2, d2, ds2, p2, q2, rfl, rfl, rfl, h2, r2⟩ := trodAll_cons r1
  obtain ⟨v3, vs3, d3, ds3, p3, q3, rfl, rfl, rfl, h3, r3⟩ := trodAll_cons r2
  obtain ⟨rfl, rfl, rfl⟩ := trodAll_nil r3
  obtain rfl : args = #[v0, v1, v2, v3] := by apply Array.ext'; simpa using hargs
  have hb : Rows.uptoBulkAll [d0, d1, d2, d3] ≤ 1048576 := by have := of_decide_eq_true hk; simpa only [List.append_nil] using this
  clear hk hA
  obtain ⟨f0, h0⟩ := h0
  obtain ⟨hl0, a0, e0, ok0⟩ := reads_body bulkOk bodyT32 f0 _ _ h0 (Nat.le_trans (bulk_part (by simp)) hb)
  have hv0 := agg_of (v := v0) rfl (by rw [hl0]; decide)
  generalize hc0 : v0.cells.toList = cs0 at *
  subst hv0
  obtain ⟨a1, n1, c1, rfl⟩ := okWide_slice Tryz.underlying22 (hval 1 22 v1 rfl rfl)
  obtain ⟨f1, h1⟩ := h1
  obtain ⟨x1, ok1, _⟩ := reads_slice bulkOk Tryz.underlying22 cells30 (by omega) (fun _ => rfl) (reads_V3 bulkOk Tryz.underlying30 rfl cells30 Tryz.underlying27 cells27) h1 (Nat.le_trans (bulk_part (by simp)) hb)
  obtain ⟨b2, rfl, _, _, _⟩ := open_float Tryz.underlying27 (hval 2 27 v2 rfl rfl) h2
  obtain ⟨m3, rfl, _, _, hwf3⟩ := open_int Tryz.underlying2 (hval 3 2 v3 rfl rfl) h3
  have hc := FnExactEnergiesAlong_ok a0 a1 n1 c1 x1 (cn .f32 b2) m3 (absH W) ok0 ok1
  refine (hc W #[.agg cs0.toArray, .slice a1 n1 c1, .float .f32 b2, .int .i64 m3] (HR_abs W) ?_).mono ?_
  · show [cv (.agg cs0.toArray), cv (.slice a1 n1 c1), cv (.float .f32 b2), cv (.int .i64 m3)] = _
    rw [show cv (.agg cs0.toArray) = bva a0 from cv_agg e0]
    rfl
  · intro e W' ⟨v, H', he, hR, _, l⟩
    have hv : v = .bool true := cv_plain hR.1 rfl
    subst he hv
    exact ⟨_, rfl, post_of_old (pa := _) (pv := []) hW' (fun _ _ _ => trodAll_cons_mk (shut_bool Tryz.underlying4 _) trodAll_mk0) (fun sp hsp => trodAll_kept (abs_kept l) allPlain hA0 fun x hx => hsp x (List.mem_append.2 (.inl hx))) (fun _ _ => rfl) rfl (kept_but l _) (frozen_old l) (ok_one (by kernel_rfl) rfl (okWide_bool_mk Tryz.underlying4 _))⟩
theorem lifted (os : Os) (started : os.Started) (H : Type) (enc : TypeId × Value → H) (F : Stop.Interp) :
    ReturnsInHanded {} Tryz.checked os 3 .any ((Rows.OpenSpec.upto Rows.fnExactEnergiesAlongSpec).pre6 enc Tryz.prog Tryz.f3 Rows.fnExactEnergiesAlongUptoRow.domain false) (((Rows.OpenSpec.upto Rows.fnExactEnergiesAlongSpec).at F).post enc Tryz.prog Tryz.f3 false true false false) := by
  refine returnsInHanded_of_cond (C := Tryz.checked) (s := Rows.OpenSpec.upto Rows.fnExactEnergiesAlongSpec) (k := Rows.uptoSmall) rfl own started (by kernel_rfl) Tryz.func3
    (OpenSpec.witness (enc := enc) (C := Tryz.checked) (s := Rows.OpenSpec.upto Rows.fnExactEnergiesAlongSpec) (k := Rows.uptoSmall) rfl false ⟨#[], #[.agg #[.slice none 0 0, .slice none 0 0, .slice none 0 0, .float .f32 0, .float .f32 0, .slice none 0 0, .float .f32 0, .float .f32 0, .float .f32 0], .slice none 0 0, .float .f32 0, .int .i64 0], []⟩ 8 (by kernel_rfl) (by kernel_rfl) (by kernel_rfl)
      (x := ([.agg [.agg [.nil, .nil], .nil, .lit (.float .f32 0), .lit (.float .f32 0), .nil, .agg [.lit (.float .f32 0), .lit (.float .f32 0), .lit (.float .f32 0)]], .nil, .lit (.float .f32 0), .lit (.int .i64 0)], [], [])) (by kernel_rfl) rfl (by kernel_rfl)) ?_
  intro W base args ds gs before hval hW _ hk _
  exact contract H enc W base args ds gs before hval hW hk
end Go.Proofs.YtpiidmgenkjiiaaGreat.fnExactEnergiesAlong
namespace Go.Proofs.YtpiidmgenkjiiaaGreat
open Go Go.Ab Go.Proofs
theorem fnExactEnergiesAlong_holds : Rows.FnExactEnergiesAlongUptoSaid :=
  OpenClaim.holds_of_cond 3 Tryz.f3 rfl rfl rfl rfl rfl rfl rfl ⟨rfl, rfl, rfl, rfl, rfl⟩ rfl rfl rfl rfl rfl (by kernel_rfl) Tryz.func3 (by kernel_rfl)
    (of_decide_eq_true (by kernel_rfl)) (by unfold Func.isWrapper; first | (rw [if_pos (by decide +kernel)]; kernel_rfl) | (rw [if_neg (by decide +kernel)]; exact ⟨rfl, rfl⟩))
    (fun os started H enc _ F => fnExactEnergiesAlong.lifted os started H enc F)
end Go.Proofs.YtpiidmgenkjiiaaGreat

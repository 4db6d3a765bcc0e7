/- Laws of a view of memory in which all not-a-numbers are one value, with which the texts of this claim walk through the program; no conditions beside those that each law tells. -/
import Derived.Test.YtpiidmgenkjiiaaGreatVb
import Derived.WalkKit
import Derived.ProofKit
import Derived.OpenShut
import Derived.JoinedCond
import Derived.Laws.Cover2
namespace Go.Ab
open Go.ChangeShapes Go.WideShapes Go.ChangeAt Go.RowKit
/-- All rows of cells of a memory, only read. -/
def absH (w : World) : AH := fun b => match w.heap[b]? with
  | some (.cells cs e _) => some (.cells (cs.toList.map cv1) e false cs.size)
  | _ => none
theorem HR_abs (w : World) : HR (absH w) w := by
  intro b blk hb
  unfold absH at hb
  split at hb
  · rename_i cs e frz h
    injection hb with hb; subst hb
    exact ⟨_, h, rfl, rfl, by simp, fun i hi => by simp, fun h => by cases h⟩
  · cases hb
theorem abs_kept {w w' : World} {H' : AH} (l : L (absH w) w H' w') (b : Nat) (hb : b < w.heap.size) : w'.heap[b]? = w.heap[b]? := by
  cases h : absH w b with
  | none => exact (l.far b hb h).1
  | some blk =>
    have h2 := h
    unfold absH at h
    split at h
    · rename_i cs e frz h3
      injection h with h; subst h
      rw [(l.ro b _ _ _ h2).1, h3]
    · cases h
theorem abs_cells {w : World} {b : Nat} {cs : Array Value} {e : TypeId} {frz : Nat × Nat} (h : w.heap[b]? = some (.cells cs e frz)) : absH w b = some (.cells (cs.toList.map cv1) e false cs.size) := by
  unfold absH; rw [h]

/-! ### mapM of options -/
theorem mapM_cons_some {α β : Type} {f : α → Option β} {a : α} {l : List α} {ys : List β} : (a :: l).mapM f = some ys ↔ ∃ y zs, f a = some y ∧ l.mapM f = some zs ∧ ys = y :: zs := by
  rw [List.mapM_cons]
  cases f a with
  | none => simp
  | some y =>
    cases l.mapM f with
    | none => simp
    | some zs => simp [eq_comm]
theorem mapM_nil_some {α β : Type} {f : α → Option β} {ys : List β} : ([] : List α).mapM f = some ys ↔ ys = [] := by
  rw [List.mapM_nil]; simp [eq_comm]
theorem mapM_len {α β : Type} {f : α → Option β} : ∀ {l : List α} {ys : List β}, l.mapM f = some ys → ys.length = l.length
  | [], ys, h => by rw [mapM_nil_some] at h; subst h; rfl
  | a :: l, ys, h => by
    obtain ⟨y, zs, _, h2, rfl⟩ := mapM_cons_some.1 h
    simp [mapM_len h2]
theorem mapM_get {α β : Type} {f : α → Option β} : ∀ {l : List α} {ys : List β} {i : Nat} {a : α}, l.mapM f = some ys → l[i]? = some a → ∃ y, ys[i]? = some y ∧ f a = some y
  | [], ys, i, a, h, ha => by simp at ha
  | a0 :: l, ys, 0, a, h, ha => by
    obtain ⟨y, zs, h1, h2, rfl⟩ := mapM_cons_some.1 h
    simp only [List.getElem?_cons_zero, Option.some.injEq] at ha
    subst ha; exact ⟨y, rfl, h1⟩
  | a0 :: l, ys, i + 1, a, h, ha => by
    obtain ⟨y, zs, h1, h2, rfl⟩ := mapM_cons_some.1 h
    rw [List.getElem?_cons_succ] at ha
    obtain ⟨z, h3, h4⟩ := mapM_get h2 ha
    exact ⟨z, by rw [List.getElem?_cons_succ]; exact h3, h4⟩
theorem mapM_to {α β : Type} {f g : α → Option β} : ∀ {l : List α} {ys : List β}, l.mapM f = some ys → (∀ a ∈ l, ∀ y ∈ ys, f a = some y → g a = some y) → l.mapM g = some ys
  | [], ys, h, _ => by rw [mapM_nil_some] at h ⊢; exact h
  | a :: l, ys, h, hg => by
    obtain ⟨y, zs, h1, h2, rfl⟩ := mapM_cons_some.1 h
    exact mapM_cons_some.2 ⟨y, zs, hg a (by simp) y (by simp) h1, mapM_to h2 fun b hb z hz => hg b (by simp [hb]) z (by simp [hz]), rfl⟩

/-! ### What is read stays so -/
inductive Plain (P : Program) : TypeId → Prop where
  | bool {t : TypeId} (h : P.underlying t = some .bool) : Plain P t
  | int {t : TypeId} {k : IntKind} (h : P.underlying t = some (.int k)) : Plain P t
  | float {t : TypeId} {k : FloatKind} (h : P.underlying t = some (.float k)) : Plain P t
  | string {t : TypeId} (h : P.underlying t = some .string) : Plain P t
  | slice {t e : TypeId} (h : P.underlying t = some (.slice e)) (hc : 0 < P.cellsOf e) (he : Plain P e) : Plain P t
  | struct {t : TypeId} {fs : Array Field} (h : P.underlying t = some (.struct fs)) (hf : ∀ f ∈ fs.toList, Plain P f.type) : Plain P t
section
variable {H : Type} {enc : TypeId × Value → H} {P : Program} {W W' : World}
theorem cells_kept (hk : ∀ b, b < W.heap.size → W'.heap[b]? = W.heap[b]?) {a : Addr} {n : Nat} {l : List Value} (h : W.cells? 0 a n = some l) : W'.cells? 0 a n = some l := by
  unfold World.cells? at *
  rw [if_pos (Nat.zero_le _)] at *
  refine mapM_to h fun i _ y _ hy => ?_
  unfold World.cell? at *
  have hb : (a.add i).block < W.heap.size := by
    cases hh : W.heap[(a.add i).block]? with
    | none => rw [hh] at hy; cases hy
    | some o => exact (Array.getElem?_eq_some_iff.1 hh).1
  rw [hk _ hb]; exact hy
theorem mem_row {a : Addr} {n : Nat} (h : 0 < n) : MemPlace.cell a.block a.off ∈ MemPlace.row a n := List.mem_map.2 ⟨0, List.mem_range.2 h, rfl⟩
theorem trod_kept (hk : ∀ b, b < W.heap.size → W'.heap[b]? = W.heap[b]?) {sp : Nat → Bool} {t : TypeId} (ht : Plain P t) : ∀ (fuel : Nat) (cs : List Value) (x : DataW H × List MemPlace),
    DataW.trod enc P W 0 (fun _ => true) true fuel t cs = some x → (∀ p ∈ x.2, sp p.block = true) → DataW.trod enc P W' 0 sp true fuel t cs = some x := by
  induction ht with
  | bool h =>
    intro fuel cs x hx _
    cases fuel with
    | zero => cases hx
    | succ n =>
      unfold DataW.trod at *
      rw [h] at *
      rcases cs with _ | ⟨c, _ | ⟨c2, cs⟩⟩ <;> (try cases c) <;> first | exact hx | cases hx
  | int h =>
    intro fuel cs x hx _
    cases fuel with
    | zero => cases hx
    | succ n =>
      unfold DataW.trod at *
      rw [h] at *
      rcases cs with _ | ⟨c, _ | ⟨c2, cs⟩⟩ <;> (try cases c) <;> first | exact hx | cases hx
  | float h =>
    intro fuel cs x hx _
    cases fuel with
    | zero => cases hx
    | succ n =>
      unfold DataW.trod at *
      rw [h] at *
      rcases cs with _ | ⟨c, _ | ⟨c2, cs⟩⟩ <;> (try cases c) <;> first | exact hx | cases hx
  | string h =>
    intro fuel cs x hx _
    cases fuel with
    | zero => cases hx
    | succ n =>
      unfold DataW.trod at *
      rw [h] at *
      rcases cs with _ | ⟨c, _ | ⟨c2, cs⟩⟩ <;> (try cases c) <;> first | exact hx | cases hx
  | @slice t e h hc he ih =>
    intro fuel cs x hx hsp
    cases fuel with
    | zero => cases hx
    | succ n =>
      unfold DataW.trod at hx ⊢
      rw [h] at hx ⊢
      rcases cs with _ | ⟨c, cs⟩
      · cases hx
      rcases cs with _ | ⟨c2, cs⟩
      rotate_left
      · cases c with
        | slice a len cap => cases a <;> cases len <;> cases cap <;> cases hx
        | _ => cases hx
      cases c <;> try (cases hx; done)
      rename_i a len cap
      cases a with
      | none => cases len <;> cases cap <;> first | exact hx | cases hx
      | some a =>
        dsimp only at hx ⊢
        split at hx
        · rename_i hb
          rw [if_pos hb]
          obtain ⟨elems, he1, hx⟩ := Option.bind_eq_some_iff.1 hx
          obtain ⟨rest, hr1, rfl⟩ := Option.map_eq_some_iff.1 hx
          rw [if_pos rfl] at hr1
          have hel : ∀ i y, ((W.cells? 0 (a.add (i * P.cellsOf e)) (P.cellsOf e)).bind (DataW.trod enc P W 0 (fun _ => true) true n e)) = some y → (∀ p ∈ y.2, sp p.block = true) →
              ((W'.cells? 0 (a.add (i * P.cellsOf e)) (P.cellsOf e)).bind (DataW.trod enc P W' 0 sp true n e)) = some y := by
            intro i y hy hys
            obtain ⟨l, h1, h2⟩ := Option.bind_eq_some_iff.1 hy
            rw [cells_kept hk h1]
            exact ih n l y h2 hys
          have hpl : ∀ y ∈ elems ++ rest, ∀ p ∈ y.2, sp p.block = true := fun y hy p hp => hsp p (List.mem_append.2 (.inr (List.mem_flatMap.2 ⟨y, hy, hp⟩)))
          refine Option.bind_eq_some_iff.2 ⟨elems, mapM_to he1 fun i _ y hy h3 => hel i y h3 (hpl y (by simp [hy])), ?_⟩
          refine Option.map_eq_some_iff.2 ⟨rest, ?_, rfl⟩
          have hr2 := mapM_to hr1 (g := fun j => ((W'.cells? 0 (a.add ((len + j) * P.cellsOf e)) (P.cellsOf e)).bind (DataW.trod enc P W' 0 sp true n e))) fun j _ y hy h3 => hel (len + j) y h3 (hpl y (by simp [hy]))
          by_cases hz : 0 < elems.length + rest.length
          · have : sp a.block = true := hsp _ (List.mem_append.2 (.inl (mem_row (a := a) (n := (elems.length + rest.length) * P.cellsOf e) (Nat.mul_pos hz hc))))
            rw [if_pos this]; exact hr2
          · have hl := mapM_len hr1
            rw [List.length_range] at hl
            have h0 : cap - len = 0 := by omega
            have hr0 : rest = [] := List.eq_nil_of_length_eq_zero (by omega)
            split
            · exact hr2
            · rw [hr0]
        · cases hx
  | @struct t fs h hf ih =>
    intro fuel cs x hx hsp
    cases fuel with
    | zero => cases hx
    | succ n =>
      unfold DataW.trod at hx ⊢
      rw [h] at hx ⊢
      dsimp only at hx ⊢
      split at hx
      · rename_i hl
        rw [if_pos hl]
        obtain ⟨xs, h1, rfl⟩ := Option.map_eq_some_iff.1 hx
        exact Option.map_eq_some_iff.2 ⟨xs, mapM_to h1 fun f hf' y hy h3 => ih f hf' n _ y h3 fun p hp => hsp p (List.mem_flatMap.2 ⟨y, hy, hp⟩), rfl⟩
      · cases hx
theorem trodAll_kept (hk : ∀ b, b < W.heap.size → W'.heap[b]? = W.heap[b]?) {sp : Nat → Bool} : ∀ {ts : List TypeId} {vs : List Value} {ds : List (DataW H)} {ps : List MemPlace}, (∀ t ∈ ts, Plain P t) → DataW.TrodAll enc P W 0 (fun _ => true) true ts vs ds ps → (∀ p ∈ ps, sp p.block = true) → DataW.TrodAll enc P W' 0 sp true ts vs ds ps
  | [], vs, ds, ps, _, h, _ => by
    obtain ⟨rfl, rfl, rfl⟩ := trodAll_nil h
    exact rfl
  | t :: ts, vs, ds, ps, hp, h, hs => by
    obtain ⟨v, vs', d, ds', p, q, rfl, rfl, rfl, ⟨fuel, h1⟩, h2⟩ := trodAll_cons h
    exact ⟨p, q, ⟨fuel, trod_kept hk (hp t (by simp)) fuel _ _ h1 fun x hx => hs x (by simp [hx])⟩, trodAll_kept hk (fun t ht => hp t (by simp [ht])) h2 fun x hx => hs x (by simp [hx]), rfl⟩
/-- What a law's row asks of the world behind the call. -/
theorem post_of_old {f : Func} {s : ChangeSpec} {args : Array Value} {v : Value} {ds gs : List (DataW H)} {before pa pv : List MemPlace}
    (hW : DataW.Whole enc P f.params.toList s.vars false W args.toList ds gs before)
    (hres : ∀ (b : Nat) (sp : Nat → Bool) (hd : Bool), DataW.TrodAll enc P W' b sp hd f.resultTypes.toList (v.resultList f.resultTypes.size) (s.fn H (ds ++ gs)).results [])
    (hargs : ∀ sp : Nat → Bool, (∀ p ∈ before, sp p.block = true) → DataW.TrodAll enc P W' 0 sp true f.params.toList args.toList (s.fn H (ds ++ gs)).args pa)
    (hvars : ∀ sp : Nat → Bool, (∀ p ∈ before, sp p.block = true) → DataW.TrodVars enc P W' sp s.vars (s.fn H (ds ++ gs)).vars pv)
    (hps : before = pa ++ pv) (hk : W.keptBut W' (· ∈ before)) (hfz : ∀ a : Addr, a.block < W.heap.size → W'.frozen? a = W.frozen? a)
    (hok : ∀ (j : Nat) (t : TypeId) (r : Value), f.resultTypes[j]? = some t → (v.resultList f.resultTypes.size)[j]? = some r → Value.okWide P W' .any 0 t r) :
    s.post enc P f false true false false W args v W' := by
  have hold : ∀ p ∈ before, (fun b => decide (b < W.heap.size)) p.block = true := fun p hp => by simpa using hW.lt p hp
  refine ⟨ds, gs, before, [], pa, pv, hW, hres _ _ _, hargs _ hold, hvars _ hold, World.keptBut_mono (fun p hp => ⟨hp, ?_⟩) hk, fun h => by cases h⟩
  rw [hps, List.mem_append] at hp
  exact Or.inr hp
end
end Go.Ab

namespace Go.Ab
open Go.ChangeShapes Go.WideShapes Go.ChangeAt Go.RowKit
theorem kept_but {W W' : World} {H' : AH} (l : L (absH W) W H' W') (may : MemPlace → Prop) : W.keptBut W' may := by
  refine ⟨l.os, l.output, fun i hi => ?_⟩
  rw [abs_kept l i hi]
  rcases W.heap[i]? with _ | o
  · rfl
  · cases o <;> simp
theorem frozen_old {W W' : World} {H' : AH} (l : L (absH W) W H' W') (a : Addr) (h : a.block < W.heap.size) : W'.frozen? a = W.frozen? a := by
  simp only [World.frozen?, abs_kept l _ h]
structure BulkOk {H : Type} (bk : DataW H → Nat) (bkA : List (DataW H) → Nat) : Prop where
  slice : ∀ elems spare, bkA elems ≤ bk (.slice elems spare)
  agg : ∀ parts, bkA parts ≤ bk (.agg parts)
  mem : ∀ d l, d ∈ l → bk d ≤ bkA l
  len : ∀ l, l.length ≤ bkA l
section
variable {H : Type} {enc : TypeId × Value → H} {P : Program} {W : World} {bk : DataW H → Nat} {bkA : List (DataW H) → Nat}
def Reads (enc : TypeId × Value → H) (P : Program) (W : World) (bk : DataW H → Nat) (t n : Nat) {α : Type} (en : α → List Value) (ok : α → Prop) : Prop :=
  ∀ fuel cs x, DataW.trod enc P W 0 (fun _ => true) true fuel t cs = some x → bk x.1 ≤ 1048576 → cs.length = n ∧ ∃ a : α, cs.map cv1 = en a ∧ ok a
theorem reads_int {t : TypeId} (h : P.underlying t = some (.int .i64)) : Reads enc P W bk t 1 encI fun _ => True := by
  intro fuel cs x hx _
  cases fuel with
  | zero => cases hx
  | succ n =>
    unfold DataW.trod at hx
    rw [h] at hx
    rcases cs with _ | ⟨c, _ | ⟨c2, cs⟩⟩ <;> (try cases c) <;> try (cases hx; done)
    rename_i k m
    dsimp only at hx
    split at hx
    · rename_i hk; obtain ⟨rfl, _⟩ := hk; exact ⟨rfl, m, rfl, trivial⟩
    · cases hx
theorem reads_float {t : TypeId} (h : P.underlying t = some (.float .f32)) : Reads enc P W bk t 1 encF fun _ => True := by
  intro fuel cs x hx _
  cases fuel with
  | zero => cases hx
  | succ n =>
    unfold DataW.trod at hx
    rw [h] at hx
    rcases cs with _ | ⟨c, _ | ⟨c2, cs⟩⟩ <;> (try cases c) <;> try (cases hx; done)
    rename_i k m
    dsimp only at hx
    split at hx
    · rename_i hk; obtain ⟨rfl, _⟩ := hk; exact ⟨rfl, cn .f32 m, rfl, trivial⟩
    · cases hx
theorem flat_part {α : Type} {en : α → List Value} {sz : Nat} (hen : ∀ a, (en a).length = sz) : ∀ (xs : List α) (l : List Value) (off : Nat), (∀ i x, xs[i]? = some x → ∀ j, j < sz → l[off + i * sz + j]? = (en x)[j]?) → (l.drop off).take (xs.length * sz) = xs.flatMap en
  | [], l, off, _ => by simp
  | x :: xs, l, off, h => by
    have ih := flat_part hen xs l (off + sz) (fun i y hy j hj => by
      have := h (i + 1) y (by rw [List.getElem?_cons_succ]; exact hy) j hj
      rw [← this]; congr 1; rw [Nat.add_mul]; omega)
    have h0 := h 0 x rfl
    rw [List.flatMap_cons, ← ih, List.length_cons, Nat.add_mul, Nat.one_mul, Nat.add_comm (xs.length * sz), List.take_add, List.drop_drop]
    congr 1
    apply List.ext_getElem?
    intro j
    rw [List.getElem?_take]
    by_cases hj : j < sz
    · rw [if_pos hj, List.getElem?_drop]
      have := h0 j hj
      rw [← this]; congr 1; omega
    · rw [if_neg hj, List.getElem?_eq_none (by rw [hen]; omega)]
theorem cells_get {a : Addr} {n : Nat} {l : List Value} (h : W.cells? 0 a n = some l) : l.length = n ∧ ∀ j, j < n → ∃ v, W.cell? (a.add j) = some v ∧ l[j]? = some v := by
  unfold World.cells? at h
  rw [if_pos (Nat.zero_le _)] at h
  refine ⟨by rw [mapM_len h, List.length_range], fun j hj => ?_⟩
  obtain ⟨y, h1, h2⟩ := mapM_get h (show (List.range n)[j]? = some j by rw [List.getElem?_range hj])
  exact ⟨y, h2, h1⟩
theorem reads_slice {t e : TypeId} {sz : Nat} {α : Type} {en : α → List Value} {ok : α → Prop} (hB : BulkOk bk bkA) (h : P.underlying t = some (.slice e)) (hc : P.cellsOf e = sz) (hsz : 0 < sz) (hen : ∀ a, (en a).length = sz) (hr : Reads enc P W bk e sz en ok)
    {fuel : Nat} {a : Option Addr} {len cap : Nat} {x : DataW H × List MemPlace} (hx : DataW.trod enc P W 0 (fun _ => true) true fuel t [.slice a len cap] = some x) (hb : bk x.1 ≤ 1048576) : ∃ xs : List α, VS (absH W) en a len xs ∧ ∀ y ∈ xs, ok y := by
  cases fuel with
  | zero => cases hx
  | succ n =>
    unfold DataW.trod at hx
    rw [h] at hx
    cases a with
    | none =>
      cases len <;> cases cap <;> try (cases hx; done)
      exact ⟨[], ⟨.nil, rfl, Nat.zero_le _⟩, by simp⟩
    | some a =>
      dsimp only at hx
      split at hx
      · obtain ⟨elems, he1, hx⟩ := Option.bind_eq_some_iff.1 hx
        obtain ⟨rest, _, rfl⟩ := Option.map_eq_some_iff.1 hx
        have hel := mapM_len he1
        rw [List.length_range] at hel
        have hbs := hB.slice (elems.map (·.1)) (rest.map (·.1))
        have hbl := hB.len (elems.map (·.1))
        rw [List.length_map] at hbl
        dsimp only at hb
        -- each element
        have hall : ∀ i, i < len → ∃ l, W.cells? 0 (a.add (i * sz)) sz = some l ∧ ∃ y : α, l.map cv1 = en y ∧ ok y := by
          intro i hi
          obtain ⟨y, h1, h2⟩ := mapM_get he1 (show (List.range len)[i]? = some i by rw [List.getElem?_range hi])
          rw [hc] at h2
          obtain ⟨l, h3, h4⟩ := Option.bind_eq_some_iff.1 h2
          have hy : bk y.1 ≤ 1048576 := by
            have := hB.mem y.1 (elems.map (·.1)) (List.mem_map.2 ⟨y, List.mem_of_getElem? h1, rfl⟩)
            omega
          exact ⟨l, h3, (hr n l y h4 hy).2⟩
        have hlist : ∀ k, k ≤ len → ∃ xs : List α, xs.length = k ∧ (∀ y ∈ xs, ok y) ∧ ∀ i y, xs[i]? = some y → ∃ l, W.cells? 0 (a.add (i * sz)) sz = some l ∧ l.map cv1 = en y := by
          intro k
          induction k with
          | zero => intro _; exact ⟨[], rfl, by simp, by simp⟩
          | succ k ih =>
            intro hk
            obtain ⟨xs, h1, h2, h3⟩ := ih (by omega)
            obtain ⟨l, h4, y, h5, h6⟩ := hall k (by omega)
            refine ⟨xs ++ [y], by simp [h1], fun z hz => ?_, fun i z hz => ?_⟩
            · rcases List.mem_append.1 hz with hz | hz
              · exact h2 z hz
              · rw [List.mem_singleton.1 hz]; exact h6
            · by_cases hi : i < xs.length
              · rw [List.getElem?_append_left hi] at hz; exact h3 i z hz
              · rw [List.getElem?_append_right (by omega)] at hz
                have h7 : i - xs.length = 0 := by have := get_lt hz; simp at this; omega
                rw [h7] at hz
                simp only [List.getElem?_cons_zero, Option.some.injEq] at hz
                subst hz
                have h8 : i = k := by omega
                subst h8; exact ⟨l, h4, h5⟩
        obtain ⟨xs, h1, h2, h3⟩ := hlist len (Nat.le_refl _)
        refine ⟨xs, ⟨?_, h1, by omega⟩, h2⟩
        by_cases hxe : xs = []
        · exact .inl hxe
        · right
          obtain ⟨y0, hy0⟩ : ∃ y, xs[0]? = some y := by
            cases xs with
            | nil => exact absurd rfl hxe
            | cons y ys => exact ⟨y, rfl⟩
          obtain ⟨l0, hl0, _⟩ := h3 0 y0 hy0
          obtain ⟨v0', hv0, _⟩ := (cells_get hl0).2 0 hsz
          have hadd0 : ((a.add (0 * sz)).add 0) = a := by simp [Addr.add]
          rw [hadd0] at hv0
          unfold World.cell? at hv0
          cases hh : W.heap[a.block]? with
          | none => rw [hh] at hv0; cases hv0
          | some o =>
            cases o with
            | cells cs e' frz =>
              rw [hh] at hv0
              dsimp only at hv0
              have hspot : a.spot = none := by
                cases hs : a.spot with
                | none => rfl
                | some s => rw [hs] at hv0; simp at hv0
              have hadd : ∀ m, (a.add m).block = a.block ∧ (a.add m).off = a.off + m ∧ (a.add m).spot = none := by
                intro m
                unfold Addr.add
                split
                · rename_i hm; subst hm; exact ⟨rfl, rfl, hspot⟩
                · exact ⟨rfl, rfl, rfl⟩
              have hget : ∀ i y, xs[i]? = some y → ∀ j, j < sz → (cs.toList.map cv1)[a.off + i * sz + j]? = (en y)[j]? := by
                intro i y hy j hj
                obtain ⟨l, h4, h5⟩ := h3 i y hy
                obtain ⟨v, h6, h7⟩ := (cells_get h4).2 j hj
                have e1 : ((a.add (i * sz)).add j).block = a.block ∧ ((a.add (i * sz)).add j).off = a.off + i * sz + j ∧ ((a.add (i * sz)).add j).spot = none := by
                  obtain ⟨q1, q2, q3⟩ := hadd (i * sz)
                  unfold Addr.add at *
                  by_cases hj0 : j = 0
                  · subst hj0; simp_all
                  · simp_all
                unfold World.cell? at h6
                rw [e1.1, hh, e1.2.2, e1.2.1] at h6
                have h6' : cs[a.off + i * sz + j]? = some v := by simpa using h6
                rw [List.getElem?_map, Array.getElem?_toList, h6', ← h5, List.getElem?_map, h7]
              refine ⟨a.block, a.off, (cs.toList.map cv1).take a.off, ((cs.toList.map cv1).drop a.off).drop (xs.length * sz), e', false, cs.size, ?_, ?_, ?_⟩
              · cases a; simp_all
              · rw [abs_cells hh, ← flat_part hen xs _ a.off hget, List.append_assoc, List.take_append_drop, List.take_append_drop]
              · rw [List.length_take]
                have : a.off < (cs.toList.map cv1).length := by
                  have := hget 0 y0 hy0 0 hsz
                  simp only [Nat.zero_mul, Nat.add_zero] at this
                  have h8 : 0 < (en y0).length := by rw [hen]; exact hsz
                  rw [List.getElem?_eq_getElem h8] at this
                  exact get_lt this
                omega
            | _ => rw [hh] at hv0; cases hv0
      · cases hx
theorem reads_row {t e : TypeId} (hB : BulkOk bk bkA) (h : P.underlying t = some (.slice e)) (hc : P.cellsOf e = 1) (he : P.underlying e = some (.int .i64)) : Reads enc P W bk t 1 encR fun r => Sls (absH W) encI r.a r.xs ∧ r.xs.length ≤ 1048576 := by
  intro fuel cs x hx hb
  have hsh : ∃ a n c, cs = [.slice a n c] := by
    cases fuel with
    | zero => cases hx
    | succ n =>
      unfold DataW.trod at hx
      rw [h] at hx
      rcases cs with _ | ⟨c, cs⟩
      · cases hx
      rcases cs with _ | ⟨c2, cs⟩
      rotate_left
      · cases c with
        | slice a len cap => cases a <;> cases len <;> cases cap <;> cases hx
        | _ => cases hx
      cases c <;> try (cases hx; done)
      exact ⟨_, _, _, rfl⟩
  obtain ⟨a, n, c, rfl⟩ := hsh
  obtain ⟨xs, hv, _⟩ := reads_slice hB h hc (by omega) (fun _ => rfl) (reads_int he) hx hb
  refine ⟨rfl, ⟨a, c, xs⟩, by simp [encR, cv1, hv.2.1], hv.1, by have := hv.2; dsimp only; omega⟩
/-- The fields of a struct. -/
theorem reads_fields {t : TypeId} {fs : Array Field} {l : List (TypeId × Nat)} (hB : BulkOk bk bkA) (ht : P.underlying t = some (.struct fs)) (hl : (fs.toList.map fun f => (f.type, f.offset)) = l) {fuel : Nat} {cs : List Value} {x : DataW H × List MemPlace} (hx : DataW.trod enc P W 0 (fun _ => true) true fuel t cs = some x) (hb : bk x.1 ≤ 1048576) :
    cs.length = P.cellsOf t ∧ ∃ n, ∀ (i ty off : Nat), l[i]? = some (ty, off) → ∃ y, DataW.trod enc P W 0 (fun _ => true) true n ty ((cs.drop off).take (P.cellsOf ty)) = some y ∧ bk y.1 ≤ 1048576 := by
  cases fuel with
  | zero => cases hx
  | succ n =>
    unfold DataW.trod at hx
    rw [ht] at hx
    dsimp only at hx
    split at hx
    · rename_i hlen
      obtain ⟨xs, h1, rfl⟩ := Option.map_eq_some_iff.1 hx
      refine ⟨hlen, n, fun i ty off hi => ?_⟩
      rw [← hl, List.getElem?_map] at hi
      cases hf : fs.toList[i]? with
      | none => rw [hf] at hi; cases hi
      | some f =>
        rw [hf] at hi
        simp only [Option.map_some, Option.some.injEq, Prod.mk.injEq] at hi
        obtain ⟨rfl, rfl⟩ := hi
        obtain ⟨y, h2, h3⟩ := mapM_get h1 hf
        refine ⟨y, h3, ?_⟩
        have h4 := hB.agg (xs.map (·.1))
        have h5 := hB.mem y.1 (xs.map (·.1)) (List.mem_map.2 ⟨y, List.mem_of_getElem? h2, rfl⟩)
        dsimp only at hb
        omega
    · cases hx
theorem reads_V3 {t f : TypeId} {fs : Array Field} (hB : BulkOk bk bkA) (ht : P.underlying t = some (.struct fs)) (hl : (fs.toList.map fun f => (f.type, f.offset)) = [(f, 0), (f, 1), (f, 2)]) (hc : P.cellsOf t = 3) (hf : P.underlying f = some (.float .f32)) (hcf : P.cellsOf f = 1) : Reads enc P W bk t 3 encV fun _ => True := by
  intro fuel cs x hx hb
  obtain ⟨hlen, n, hfl⟩ := reads_fields hB ht hl hx hb
  rw [hc] at hlen
  match cs, hlen with
  | [c0, c1, c2], _ =>
    obtain ⟨y0, h0, b0⟩ := hfl 0 f 0 rfl
    obtain ⟨y1, h1, b1⟩ := hfl 1 f 1 rfl
    obtain ⟨y2, h2, b2⟩ := hfl 2 f 2 rfl
    rw [hcf] at h0 h1 h2
    obtain ⟨_, a0, e0, _⟩ := reads_float (bk := bk) hf n _ y0 h0 b0
    obtain ⟨_, a1, e1, _⟩ := reads_float (bk := bk) hf n _ y1 h1 b1
    obtain ⟨_, a2, e2, _⟩ := reads_float (bk := bk) hf n _ y2 h2 b2
    simp only [List.drop_zero, List.drop_succ_cons, List.take_succ_cons, List.take_zero, List.map_cons, List.map_nil, encF, List.cons.injEq, and_true] at e0 e1 e2
    exact ⟨rfl, ⟨a0, a1, a2⟩, by simp [encV, e0, e1, e2], trivial⟩
theorem reads_Spr {t f i : TypeId} {fs : Array Field} (hB : BulkOk bk bkA) (ht : P.underlying t = some (.struct fs)) (hl : (fs.toList.map fun f => (f.type, f.offset)) = [(i, 0), (i, 1), (f, 2), (f, 3)]) (hc : P.cellsOf t = 4) (hf : P.underlying f = some (.float .f32)) (hcf : P.cellsOf f = 1) (hi : P.underlying i = some (.int .i64)) (hci : P.cellsOf i = 1) : Reads enc P W bk t 4 encS fun _ => True := by
  intro fuel cs x hx hb
  obtain ⟨hlen, n, hfl⟩ := reads_fields hB ht hl hx hb
  rw [hc] at hlen
  match cs, hlen with
  | [c0, c1, c2, c3], _ =>
    obtain ⟨y0, h0, b0⟩ := hfl 0 i 0 rfl
    obtain ⟨y1, h1, b1⟩ := hfl 1 i 1 rfl
    obtain ⟨y2, h2, b2⟩ := hfl 2 f 2 rfl
    obtain ⟨y3, h3, b3⟩ := hfl 3 f 3 rfl
    rw [hcf] at h2 h3
    rw [hci] at h0 h1
    obtain ⟨_, a0, e0, _⟩ := reads_int (bk := bk) hi n _ y0 h0 b0
    obtain ⟨_, a1, e1, _⟩ := reads_int (bk := bk) hi n _ y1 h1 b1
    obtain ⟨_, a2, e2, _⟩ := reads_float (bk := bk) hf n _ y2 h2 b2
    obtain ⟨_, a3, e3, _⟩ := reads_float (bk := bk) hf n _ y3 h3 b3
    simp only [List.drop_zero, List.drop_succ_cons, List.take_succ_cons, List.take_zero, List.map_cons, List.map_nil, encF, encI, List.cons.injEq, and_true] at e0 e1 e2 e3
    exact ⟨rfl, ⟨a0, a1, a2, a3⟩, by simp [encS, e0, e1, e2, e3], trivial⟩
theorem slice_shape {t e : TypeId} (h : P.underlying t = some (.slice e)) {fuel : Nat} {c : Value} {x : DataW H × List MemPlace} (hx : DataW.trod enc P W 0 (fun _ => true) true fuel t [c] = some x) : ∃ a n q, c = .slice a n q := by
  cases fuel with
  | zero => cases hx
  | succ n =>
    unfold DataW.trod at hx
    rw [h] at hx
    cases c <;> try (cases hx; done)
    exact ⟨_, _, _, rfl⟩
/-- What is asked of the types of a mesh. -/
structure MeshT (P : Program) (t : TypeId) : Prop where
  go : ∃ fs pt tt v fv, P.underlying t = some (.struct fs) ∧ (fs.toList.map fun f => (f.type, f.offset)) = [(pt, 0), (tt, 1)] ∧ P.cellsOf t = 2 ∧ P.cellsOf pt = 1 ∧ P.cellsOf tt = 1 ∧ P.underlying pt = some (.slice v) ∧ P.cellsOf v = 3 ∧
    (∃ fs2, P.underlying v = some (.struct fs2) ∧ (fs2.toList.map fun f => (f.type, f.offset)) = [(fv, 0), (fv, 1), (fv, 2)] ∧ P.underlying fv = some (.float .f32) ∧ P.cellsOf fv = 1) ∧
    ∃ r i, P.underlying tt = some (.slice r) ∧ P.cellsOf r = 1 ∧ P.underlying r = some (.slice i) ∧ P.cellsOf i = 1 ∧ P.underlying i = some (.int .i64)
theorem reads_mesh {t : TypeId} (hB : BulkOk bk bkA) (hT : MeshT P t) : Reads enc P W bk t 2 LM.v fun m => m.ok (absH W) := by
  obtain ⟨fs, pt, tt, v, fv, t1, t2, t3, t4, t5, t6, t7, ⟨fs2, u1, u2, u3, u4⟩, r, i, w1, w2, w3, w4, w5⟩ := hT.go
  intro fuel cs x hx hb
  obtain ⟨hlen, n, hfl⟩ := reads_fields hB t1 t2 hx hb
  rw [t3] at hlen
  match cs, hlen with
  | [c0, c1], _ =>
    obtain ⟨y0, h0, b0⟩ := hfl 0 pt 0 rfl
    obtain ⟨y1, h1, b1⟩ := hfl 1 tt 1 rfl
    rw [t4] at h0
    rw [t5] at h1
    simp only [List.drop_zero, List.drop_succ_cons, List.take_succ_cons, List.take_zero] at h0 h1
    obtain ⟨a0, n0, q0, rfl⟩ := slice_shape t6 h0
    obtain ⟨a1, n1, q1, rfl⟩ := slice_shape w1 h1
    obtain ⟨ps, hp, _⟩ := reads_slice hB t6 t7 (by omega) (fun _ => rfl) (reads_V3 hB u1 u2 t7 u3 u4) h0 b0
    obtain ⟨ts, ht, hto⟩ := reads_slice hB w1 w2 (by omega) (fun _ => rfl) (reads_row hB w3 w4 w5) h1 b1
    exact ⟨rfl, ⟨a0, q0, n0, ps, a1, q1, n1, ts⟩, rfl, hp, ⟨ht.1, fun r hr => hto r hr⟩, ht.2⟩
structure BodyT (P : Program) (t : TypeId) : Prop where
  go : ∃ fs m st f wt v, P.underlying t = some (.struct fs) ∧ (fs.toList.map fun f => (f.type, f.offset)) = [(m, 0), (st, 2), (f, 3), (f, 4), (wt, 5), (v, 6)] ∧ P.cellsOf t = 9 ∧ P.cellsOf m = 2 ∧ P.cellsOf st = 1 ∧ P.cellsOf f = 1 ∧ P.cellsOf wt = 1 ∧ P.cellsOf v = 3 ∧ MeshT P m ∧ P.underlying f = some (.float .f32) ∧ P.underlying wt = some (.slice f) ∧
    (∃ fs2, P.underlying v = some (.struct fs2) ∧ (fs2.toList.map fun f => (f.type, f.offset)) = [(f, 0), (f, 1), (f, 2)]) ∧
    ∃ s i fs3, P.underlying st = some (.slice s) ∧ P.cellsOf s = 4 ∧ P.underlying s = some (.struct fs3) ∧ (fs3.toList.map fun f => (f.type, f.offset)) = [(i, 0), (i, 1), (f, 2), (f, 3)] ∧ P.underlying i = some (.int .i64) ∧ P.cellsOf i = 1
theorem reads_body {t : TypeId} (hB : BulkOk bk bkA) (hT : BodyT P t) : Reads enc P W bk t 9 LB.v fun b => b.ok (absH W) := by
  obtain ⟨fs, m, st, f, wt, v, t1, t2, t3, t4, t5, t6, t7, t8, hM, t9, t10, ⟨fs2, u1, u2⟩, s, i, fs3, w1, w2, w3, w4, w5, w6⟩ := hT.go
  intro fuel cs x hx hb
  obtain ⟨hlen, n, hfl⟩ := reads_fields hB t1 t2 hx hb
  rw [t3] at hlen
  match cs, hlen with
  | [c0, c1, c2, c3, c4, c5, c6, c7, c8], _ =>
    obtain ⟨y0, h0, b0⟩ := hfl 0 m 0 rfl
    obtain ⟨y1, h1, b1⟩ := hfl 1 st 2 rfl
    obtain ⟨y2, h2, b2⟩ := hfl 2 f 3 rfl
    obtain ⟨y3, h3, b3⟩ := hfl 3 f 4 rfl
    obtain ⟨y4, h4, b4⟩ := hfl 4 wt 5 rfl
    obtain ⟨y5, h5, b5⟩ := hfl 5 v 6 rfl
    rw [t4] at h0
    rw [t5] at h1
    rw [t6] at h2 h3
    rw [t7] at h4
    rw [t8] at h5
    simp only [List.drop_zero, List.drop_succ_cons, List.take_succ_cons, List.take_zero] at h0 h1 h2 h3 h4 h5
    obtain ⟨_, me, em, hm⟩ := reads_mesh hB hM n _ y0 h0 b0
    obtain ⟨a1, n1, q1, rfl⟩ := slice_shape w1 h1
    obtain ⟨ss, hs, _⟩ := reads_slice hB w1 w2 (by omega) (fun _ => rfl) (reads_Spr hB w3 w4 w2 t9 t6 w5 w6) h1 b1
    obtain ⟨_, fi, e2, _⟩ := reads_float (bk := bk) t9 n _ y2 h2 b2
    obtain ⟨_, be, e3, _⟩ := reads_float (bk := bk) t9 n _ y3 h3 b3
    obtain ⟨a4, n4, q4, rfl⟩ := slice_shape t10 h4
    obtain ⟨ws, hw, _⟩ := reads_slice hB t10 t6 (by omega) (fun _ => rfl) (reads_float t9) h4 b4
    obtain ⟨_, fa, e5, _⟩ := reads_V3 hB u1 u2 t8 t9 t6 n _ y5 h5 b5
    simp only [List.map_cons, List.map_nil, encF, encV, LM.v, List.cons.injEq, and_true] at em e2 e3 e5
    refine ⟨rfl, ⟨me, a1, q1, n1, ss, fi, be, a4, q4, n4, ws, fa⟩, ?_, hm, hs, hw⟩
    simp only [LB.v, List.map_cons, List.map_nil, em.1, em.2, e2, e3, e5.1, e5.2.1, e5.2.2]; rfl
theorem agg_of {v : Value} {cs : List Value} (h : v.cells.toList = cs) (hl : cs.length ≠ 1) : v = .agg cs.toArray := by
  cases v <;> first | (subst h; exact absurd rfl hl) | (simp only [Value.cells] at h; subst h; simp)
theorem cv_agg {cs l : List Value} (h : cs.map cv1 = l) : cv (.agg cs.toArray) = .agg l.toArray := by
  subst h; simp [cv, cv2]
end
end Go.Ab

/- Laws of a view of memory in which all not-a-numbers are one value, with which the texts of this claim walk through the program; no conditions beside those that each law tells. -/
import Derived.Test.YtpiidmgenkjiiaaGreatVb
import Derived.Shelf.SlSortCmp.InsertionK
namespace Go.Ab
open Go.Sort Go.Proofs
section
variable {α : Type} [Inhabited α] {enc : α → List Value} {k : Nat}
theorem flat_get (hk : ∀ x, (enc x).length = k) : ∀ (xs : List α) (t : Nat), t < xs.length * k → (xs.flatMap enc)[t]? = (enc (xs[t / k]!))[t % k]?
  | [], t, h => by simp at h
  | x :: xs, t, h => by
    rw [List.flatMap_cons]
    by_cases ht : t < k
    · rw [List.getElem?_append_left (by rw [hk]; exact ht), Nat.div_eq_of_lt ht, Nat.mod_eq_of_lt ht]; rfl
    · have hk0 : 0 < k := by
        rcases Nat.eq_zero_or_pos k with h0 | h0
        · subst h0; simp at h
        · exact h0
      have h1 : t = (t - k) + k := by omega
      rw [List.getElem?_append_right (by rw [hk]; omega), hk, flat_get hk xs (t - k) (by rw [List.length_cons, Nat.add_mul] at h; omega)]
      conv => rhs; rw [h1, Nat.add_div_right _ hk0, Nat.add_mod_right]
      rfl
theorem flatK_get (hk : ∀ x, (enc x).length = k) (xs : List α) (t : Nat) (h : t < xs.length * k) : (xs.flatMap enc)[t]? = some (flatK enc k xs.toArray)[t]! := by
  have hk0 : 0 < k := by
    rcases Nat.eq_zero_or_pos k with h0 | h0
    · subst h0; simp at h
    · exact h0
  rw [flat_get hk xs t h, get_flatK enc k xs.toArray t (by simpa using h)]
  have h2 : (xs.toArray)[t / k]! = xs[t / k]! := by simp
  rw [h2]
  have hy := hk (xs[t / k]!)
  generalize xs[t / k]! = y at hy ⊢
  rw [List.getElem?_eq_getElem (by rw [hy]; exact Nat.mod_lt _ hk0), getElem!_pos _ _ (by rw [hy]; exact Nat.mod_lt _ hk0)]
variable {H : AH} {w : World} {b e c : Nat} {xs ys : List α}
theorem sort_holds (hr : HR H w) (hb : H b = some (.cells (xs.flatMap enc) e true (c * k))) (hk : ∀ x, (enc x).length = k) (hp : ∀ x, ∀ v ∈ enc x, plain v = true) : HoldsK enc k w b 0 xs.toArray := by
  obtain ⟨o, ho, hR⟩ := hr b _ hb
  cases o with
  | cells cs e' frz =>
    obtain ⟨_, hsz, hle, hcv, hfr⟩ := hR
    have hfr := hfr rfl
    subst hfr
    intro j hj
    rw [size_flatK] at hj
    have hj' : j < xs.length * k := by simpa using hj
    have hlen : (xs.flatMap enc).length = xs.length * k := flat_len hk xs
    have h1 := hcv j (by omega)
    rw [flatK_get hk xs j hj'] at h1
    have hmem : (flatK enc k xs.toArray)[j]! ∈ xs.flatMap enc := List.mem_of_getElem? (flatK_get hk xs j hj')
    obtain ⟨x, _, hx⟩ := List.mem_flatMap.1 hmem
    have hpl := hp x _ hx
    have hjc : j < cs.size := by omega
    rw [Array.getElem?_eq_getElem hjc] at h1
    simp only [Option.map_some, Option.some.injEq] at h1
    have h2 := cv1_plain h1 hpl
    refine ⟨?_, ?_⟩
    · simp only [World.cell?, ho, Nat.zero_add, Array.getElem?_eq_getElem hjc, h2]
      rfl
    · simp only [World.frozen?, ho]; simp
  | _ => exact hR.elim
theorem cv1_of_plain {v : Value} (h : plain v = true) : cv1 v = v := by cases v <;> simp_all [cv1, plain]
theorem sort_bridge {m : Nat} {os : Array Obj} (hr : HR H w) (hb : H b = some (.cells (xs.flatMap enc) e true (c * k))) (hk : ∀ x, (enc x).length = k) (hp : ∀ x, ∀ v ∈ enc x, plain v = true) (hl : ys.length = xs.length) :
    HR (upd H b (some (.cells (ys.flatMap enc) e true (c * k)))) (sortWorldK enc k w b 0 m ys.toArray os) ∧ L H w (upd H b (some (.cells (ys.flatMap enc) e true (c * k)))) (sortWorldK enc k w b 0 m ys.toArray os) := by
  obtain ⟨o, ho, hR⟩ := hr b _ hb
  cases o with
  | cells cs e' frz =>
    obtain ⟨he, hsz, hle, hcv, hfr⟩ := hR
    have hfr := hfr rfl
    subst hfr he
    have hlen : (xs.flatMap enc).length = xs.length * k := flat_len hk xs
    have hlen2 : (ys.flatMap enc).length = ys.length * k := flat_len hk ys
    have hheap : (sortWorldK enc k w b 0 m ys.toArray os).heap = w.heap.modify b (onCells (putCells id 0 (flatK enc k ys.toArray))) ++ os := rfl
    have hbs : b < w.heap.size := (Array.getElem?_eq_some_iff.1 ho).1
    have hget : ∀ i, i < w.heap.size → (sortWorldK enc k w b 0 m ys.toArray os).heap[i]? = if b = i then (w.heap[i]?).map (onCells (putCells id 0 (flatK enc k ys.toArray))) else w.heap[i]? := by
      intro i hi
      rw [hheap, Array.getElem?_append_left (by simpa using hi), Array.getElem?_modify]
    refine ⟨fun i blk hi => ?_, ⟨rfl, rfl, rfl, ?_, ?_, fun i hi hn => ?_, fun i l e2 room hi => ?_⟩⟩
    · unfold upd at hi
      split at hi
      · rename_i hib; subst hib
        injection hi with hi; subst hi
        refine ⟨.cells (putCells id 0 (flatK enc k ys.toArray) cs) e' (0, 0), by rw [hget i hbs, if_pos rfl, ho]; rfl, rfl, ?_, by rw [hlen2, hl, ← hlen]; exact hle, fun t ht => ?_, fun _ => rfl⟩
        · simp [putCells, hsz]
        · have ht' : t < ys.length * k := by omega
          have htc : t < cs.size := by rw [hl] at ht'; omega
          rw [flatK_get hk ys t ht']
          have hmem : (flatK enc k ys.toArray)[t]! ∈ ys.flatMap enc := List.mem_of_getElem? (flatK_get hk ys t ht')
          obtain ⟨x, _, hx⟩ := List.mem_flatMap.1 hmem
          have hpl := hp x _ hx
          unfold putCells
          rw [Array.getElem?_mapIdx, Array.getElem?_eq_getElem htc]
          simp only [Option.map_some, Nat.zero_le, Nat.zero_add, true_and, size_flatK, Nat.sub_zero, id_eq]
          rw [if_pos (by simpa using ht'), cv1_of_plain hpl]
      · rename_i hne
        obtain ⟨o2, ho2, hR2⟩ := hr i blk hi
        exact ⟨o2, by rw [hget i (Array.getElem?_eq_some_iff.1 ho2).1, if_neg (Ne.symm hne)]; exact ho2, hR2⟩
    · rw [hheap]; simp
    · exact Nat.le_add_right _ _
    · have hne : i ≠ b := fun h => by rw [h, hb] at hn; cases hn
      exact ⟨by rw [hget i hi, if_neg (Ne.symm hne)], by rw [upd_ne _ _ hne]; exact hn⟩
    · have hne : i ≠ b := fun h => by rw [h, hb] at hi; cases hi
      have hil : i < w.heap.size := hr.lt hi
      exact ⟨by rw [hget i hil, if_neg (Ne.symm hne)], upd_ne _ _ hne⟩
  | _ => exact hR.elim
end
end Go.Ab

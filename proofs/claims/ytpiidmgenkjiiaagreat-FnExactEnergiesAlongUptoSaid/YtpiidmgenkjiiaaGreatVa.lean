/- Laws of a view of memory in which all not-a-numbers are one value, with which the texts of this claim walk through the program; no conditions beside those that each law tells. -/
import Derived.WalkKit
import Derived.Orders
import Derived.Deep.Draws
import Derived.Laws.Tables
import Derived.OwnWalk
namespace Go.Ab

/-! ### 1. Values up to the bits of a not-a-number -/
def cnan : FloatKind → Nat
  | .f32 => 2143289344
  | .f64 => 9221120237041090560
def isN (k : FloatKind) (b : Nat) : Bool := (k.format.read b).isNaN
def cn (k : FloatKind) (b : Nat) : Nat := if isN k b then cnan k else b
def cv1 : Value → Value
  | .float k b => .float k (cn k b)
  | v => v
def cv2 : Value → Value
  | .agg cs => .agg (cs.map cv1)
  | v => cv1 v
def cv : Value → Value
  | .tuple vs => .tuple (vs.map cv2)
  | v => cv2 v

theorem isN_cnan (k : FloatKind) : isN k (cnan k) = true := by cases k <;> decide
theorem cn_cn (k : FloatKind) (b : Nat) : cn k (cn k b) = cn k b := by
  unfold cn
  by_cases h : isN k b = true
  · simp [h, isN_cnan]
  · simp [h]
theorem cv1_cv1 (v : Value) : cv1 (cv1 v) = cv1 v := by cases v <;> simp [cv1, cn_cn]
theorem cv2_cv2 (v : Value) : cv2 (cv2 v) = cv2 v := by
  cases v <;> simp [cv2, cv1, cn_cn]
  exact fun a _ => cv1_cv1 a
theorem cv_cv (v : Value) : cv (cv v) = cv v := by
  cases v <;> simp [cv, cv2, cv1, cn_cn]
  · exact fun a _ => cv1_cv1 a
  · exact fun a _ => cv2_cv2 a

@[simp] theorem cv_bool (b : Bool) : cv (.bool b) = .bool b := rfl
@[simp] theorem cv_int (k : IntKind) (n : Int) : cv (.int k n) = .int k n := rfl
@[simp] theorem cv_string (s : ByteArray) : cv (.string s) = .string s := rfl
@[simp] theorem cv_pointer (a : Option Addr) : cv (.pointer a) = .pointer a := rfl
@[simp] theorem cv_slice (a : Option Addr) (n c : Nat) : cv (.slice a n c) = .slice a n c := rfl
@[simp] theorem cv_map (r : Option Nat) : cv (.map r) = .map r := rfl
@[simp] theorem cv_func (f : Fn) (a b : Array Value) : cv (.func f a b) = .func f a b := rfl
@[simp] theorem cv_nilFunc : cv .nilFunc = .nilFunc := rfl
@[simp] theorem cv_float (k : FloatKind) (b : Nat) : cv (.float k b) = .float k (cn k b) := rfl
@[simp] theorem cv_undef : cv undef = undef := by simp [undef, cv]

/-- Not a number, no struct, no results: such a value is seen as it is. -/
def plain : Value → Bool
  | .float .. | .agg _ | .tuple _ => false
  | _ => true
theorem cv_plain {c v : Value} (h : cv c = v) (hp : plain v = true) : c = v := by
  subst h
  cases c <;> simp_all [cv, cv2, cv1, plain]
theorem cv_of_plain {v : Value} (hp : plain v = true) : cv v = v := by
  cases v <;> simp_all [cv, cv2, cv1, plain]
theorem cv1_plain {c v : Value} (h : cv1 c = v) (hp : plain v = true) : c = v := by
  subst h
  cases c <;> simp_all [cv1, plain]
theorem cv_isfloat {c : Value} {k : FloatKind} {x : Nat} (h : cv c = .float k x) : ∃ b, c = .float k b ∧ cn k b = x := by
  cases c <;> simp_all [cv, cv2, cv1]
  obtain ⟨rfl, h⟩ := h; exact h
theorem cv1_isfloat {c : Value} {k : FloatKind} {x : Nat} (h : cv1 c = .float k x) : ∃ b, c = .float k b ∧ cn k b = x := by
  cases c <;> simp_all [cv1]
  obtain ⟨rfl, h⟩ := h; exact h
theorem cv_isagg {c : Value} {l : Array Value} (h : cv c = .agg l) : ∃ cs, c = .agg cs ∧ cs.map cv1 = l := by
  cases c <;> simp_all [cv, cv2, cv1]
theorem cv_istuple {c : Value} {l : Array Value} (h : cv c = .tuple l) : ∃ cs, c = .tuple cs ∧ cs.map cv2 = l := by
  cases c <;> simp_all [cv, cv2, cv1]

/-! ### 2. Memory -/
inductive Blk where
  | cells (l : List Value) (e : TypeId) (own : Bool) (room : Nat)
  | map (es : List MapEntry) (clock : Nat)
abbrev AH := Nat → Option Blk
def cvE (e : MapEntry) : MapEntry := { e with val := cv2 e.val }
def BlkR : Blk → Obj → Prop
  | .cells l e own room, .cells cs e' frz => e' = e ∧ cs.size = room ∧ l.length ≤ room ∧ (∀ i, i < l.length → (cs[i]?).map cv1 = l[i]?) ∧ (own = true → frz = (0, 0))
  | .map es clock, .map ces clock' => clock' = clock ∧ ces.toList.map cvE = es
  | _, _ => False
def HR (H : AH) (w : World) : Prop := ∀ b blk, H b = some blk → ∃ o, w.heap[b]? = some o ∧ BlkR blk o
/-- What a step leaves alone: what is not looked at, and what is only read. -/
structure L (H : AH) (w : World) (H' : AH) (w' : World) : Prop where
  os : w'.os = w.os
  tape : w'.tape = w.tape
  output : w'.output = w.output
  size : w.heap.size ≤ w'.heap.size
  dr : w.drawn ≤ w'.drawn
  far : ∀ b, b < w.heap.size → H b = none → w'.heap[b]? = w.heap[b]? ∧ H' b = none
  ro : ∀ b l e room, H b = some (.cells l e false room) → w'.heap[b]? = w.heap[b]? ∧ H' b = H b
theorem L.refl (H : AH) (w : World) : L H w H w := ⟨rfl, rfl, rfl, Nat.le_refl _, Nat.le_refl _, fun _ _ h => ⟨rfl, h⟩, fun _ _ _ _ _ => ⟨rfl, rfl⟩⟩
theorem L.trans {H H1 H2 : AH} {w w1 w2 : World} (a : L H w H1 w1) (b : L H1 w1 H2 w2) : L H w H2 w2 :=
  ⟨b.os.trans a.os, b.tape.trans a.tape, b.output.trans a.output, Nat.le_trans a.size b.size, Nat.le_trans a.dr b.dr,
    fun i hi hn => let ⟨x, y⟩ := a.far i hi hn; let ⟨x', y'⟩ := b.far i (Nat.lt_of_lt_of_le hi a.size) y; ⟨x'.trans x, y'⟩,
    fun i l e r hi => let ⟨x, y⟩ := a.ro i l e r hi; let ⟨x', y'⟩ := b.ro i l e r (y.trans hi); ⟨x'.trans x, y'.trans y⟩⟩
theorem HR.fresh {H : AH} {w : World} (h : HR H w) {b : Nat} (hb : w.heap.size ≤ b) : H b = none := by
  cases hH : H b with
  | none => rfl
  | some blk => obtain ⟨o, ho, _⟩ := h b blk hH; have := (Array.getElem?_eq_some_iff.1 ho).1; omega
theorem HR.lt {H : AH} {w : World} (h : HR H w) {b : Nat} {blk : Blk} (hb : H b = some blk) : b < w.heap.size := by
  obtain ⟨o, ho, _⟩ := h b blk hb; exact (Array.getElem?_eq_some_iff.1 ho).1
theorem HR.drewN {H : AH} {w : World} (h : HR H w) (n : Nat) : HR H (w.drewN n) := h
theorem L.drewN (H : AH) (w : World) (n : Nat) : L H w H (w.drewN n) := ⟨rfl, rfl, rfl, Nat.le_refl _, Nat.le_add_right _ _, fun _ _ h => ⟨rfl, h⟩, fun _ _ _ _ _ => ⟨rfl, rfl⟩⟩
def upd {α : Type} (f : Nat → α) (i : Nat) (x : α) : Nat → α := fun j => if j = i then x else f j
@[simp] theorem upd_same {α : Type} (f : Nat → α) (i : Nat) (x : α) : upd f i x i = x := by simp [upd]
theorem upd_ne {α : Type} (f : Nat → α) {i j : Nat} (x : α) (h : j ≠ i) : upd f i x j = f j := by simp [upd, h]

/-! ### 3. The frame -/
abbrev Env := Nat → Value
def envOf (a : Act) : Env := fun i => cv (a.tmps.getD i undef)
def Env.ev (env : Env) : Operand → Value
  | .tmp t => env t
  | .const v => cv v
  | .global g => .pointer (some ⟨g, 0, none⟩)
  | .func f => .func (.func f) #[] #[]
theorem ev_envOf (a : Act) (x : Operand) : (envOf a).ev x = cv (a.eval x) := by cases x <;> rfl
structure Rel (N : Nat) (env : Env) (H : AH) (a : Act) (w : World) : Prop where
  env : envOf a = env
  size : a.tmps.size = N
  defers : a.defers = []
  hr : HR H w
def put (env : Env) (dst : Option Tmp) (v : Value) : Env := match dst with | some d => upd env d v | none => env
theorem Rel.put {N : Nat} {env : Env} {H : AH} {a : Act} {w : World} (h : Rel N env H a w) {dst : Option Tmp} (hd : ∀ d, dst = some d → d < N) (u : Value) :
    Rel N (Ab.put env dst (cv u)) H (a.put dst u) w := by
  obtain ⟨he, hs, hf, hr⟩ := h
  cases dst with
  | none => exact ⟨he, hs, hf, hr⟩
  | some d =>
    refine ⟨?_, by simpa [Act.put] using hs, hf, hr⟩
    subst he
    funext i
    simp only [envOf, Act.put, Ab.put, upd]
    have hdN := hd d rfl
    by_cases hi : i = d
    · subst hi; simp [hs, hdN, Array.getD]
    · simp only [if_neg hi]
      congr 1
      simp only [Array.getD_eq_getD_getElem?]
      rw [Array.getElem?_setIfInBounds_ne (Ne.symm hi)]

/-- Behind a step: the view 'K' speaks of, and what was left alone. -/
def To (N : Nat) (H0 : AH) (w0 : World) (K : Env → AH → Prop) : Act → World → Prop := fun a w => ∃ env H, K env H ∧ Rel N env H a w ∧ L H0 w0 H w
theorem To.mono {N : Nat} {H0 : AH} {w0 : World} {K K' : Env → AH → Prop} (hk : ∀ e h, K e h → K' e h) {a : Act} {w : World} (h : To N H0 w0 K a w) : To N H0 w0 K' a w :=
  let ⟨e, H, k, r, l⟩ := h; ⟨e, H, hk _ _ k, r, l⟩
theorem To.after {N : Nat} {H0 H1 : AH} {w0 w1 : World} {K : Env → AH → Prop} (l : L H0 w0 H1 w1) {a : Act} {w : World} (h : To N H1 w1 K a w) : To N H0 w0 K a w :=
  let ⟨e, H, k, r, l'⟩ := h; ⟨e, H, k, r, l.trans l'⟩

/-- An operation that does not panic. -/
def AOp (P : Program) (N : Nat) (o : Oper) (env : Env) (H : AH) (K : Env → AH → Prop) : Prop :=
  ∀ a w, Rel N env H a w → o.wp P a w (To N H w K) (fun _ _ _ => False)
theorem wp_mono2 {P : Program} {o : Oper} {a : Act} {w : World} {K K' : Act → World → Prop} {Q : Exit → Act → World → Prop} (h : o.wp P a w K (fun _ _ _ => False)) (hk : ∀ a w, K a w → K' a w) : o.wp P a w K' Q := by
  unfold Oper.wp at *
  generalize (execOp a.eval o).run P w = r at *
  cases r with
  | ok n w' =>
    cases n <;> simp only [Oper.upon] at h ⊢
    case value v => exact hk _ _ h
    case skip => exact hk _ _ h
    case defer d => exact hk _ _ h
    case enter f args =>
      refine h.mono ?_
      intro e w'' he
      cases e with
      | returned v => exact hk _ _ he
      | panicked c => exact he.elim
      | outgrown => obtain ⟨_, _, x⟩ := he; exact x.elim
    case row r args => exact h.mono fun v w' hv => hk _ _ hv
  | halt x w' => cases x <;> simp only [Oper.upon] at h <;> exact h.elim
theorem AOp.mono {P : Program} {N : Nat} {o : Oper} {env : Env} {H : AH} {K K' : Env → AH → Prop} (h : AOp P N o env H K) (hk : ∀ e h, K e h → K' e h) : AOp P N o env H K' :=
  fun a w r => wp_mono2 (h a w r) fun _ _ => To.mono hk

def yieldedE (ops : Array Oper) (env : Env) (j : Nat) : Option Bool :=
  match (ops[j]?).bind (·.dst) with
  | some d => match env d with | .bool b => some b | _ => none
  | none => none
theorem yielded_eq (ops : Array Oper) (a : Act) : yielded ops a.tmps = yieldedE ops (envOf a) := by
  funext j
  unfold yielded yieldedE envOf
  cases (ops[j]?).bind (·.dst) with
  | none => rfl
  | some d =>
    simp only [Option.bind_some, Array.getD_eq_getD_getElem?]
    cases h : a.tmps[d]? with
    | none => simp [undef, cv]
    | some v =>
      cases v <;> simp [cv, cv2, cv1]

/-- The operations of a region one behind the other. -/
def ALst (P : Program) (N : Nat) (ops : Array Oper) (Q : Exit → Env → AH → Prop) : List Oper → Env → AH → Prop
  | [], env, H => Q .normal env H
  | o :: rest, env, H => if Region.wanted o (yieldedE ops env) then AOp P N o env H (ALst P N ops Q rest) else ALst P N ops Q rest (put env o.dst undef) H
def dstOk (N : Nat) (l : List Oper) : Bool := l.all fun o => match o.dst with | some d => d < N | none => true

/-- A statement. -/
def AWp (P : Program) (N : Nat) (c : Code) (Q : Exit → Env → AH → Prop) (env : Env) (H : AH) : Prop :=
  ∀ a w, Rel N env H a w → c.wp P (fun e a' w' => To N H w (Q e) a' w') a w
theorem dstOk_head {N : Nat} {o : Oper} {l : List Oper} (h : dstOk N (o :: l) = true) : (∀ d, o.dst = some d → d < N) ∧ dstOk N l = true := by
  simp only [dstOk, List.all_cons, Bool.and_eq_true] at h
  exact ⟨fun d hd => by simpa [hd] using h.1, h.2⟩
theorem wpList_of {P : Program} {N : Nat} {ops : Array Oper} {Q : Exit → Env → AH → Prop} {H0 : AH} {w0 : World} : ∀ (l : List Oper) (env : Env) (H : AH) (a : Act) (w : World), dstOk N l = true → ALst P N ops Q l env H → Rel N env H a w → L H0 w0 H w →
    wpList P ops (fun e a' w' => To N H0 w0 (Q e) a' w') l a w
  | [], env, H, a, w, _, h, r, l => wpList_nil ⟨env, H, h, r, l⟩
  | o :: rest, env, H, a, w, hd, h, r, l => by
    obtain ⟨hd1, hd2⟩ := dstOk_head hd
    refine wpList_step fun K hK => ?_
    unfold ALst at h
    rw [yielded_eq, r.env]
    split
    · rename_i hw
      rw [if_pos hw] at h
      refine wp_mono2 (h a w r) fun a' w' h' => hK _ _ ?_
      obtain ⟨env', H', k, r', l'⟩ := h'
      exact wpList_of rest env' H' a' w' hd2 k r' (l.trans l')
    · rename_i hw
      rw [if_neg hw] at h
      exact hK _ _ (wpList_of rest _ H _ w hd2 h (by have := r.put hd1 undef; rwa [cv_undef] at this) l)
theorem AWp_region {P : Program} {N : Nat} {Q : Exit → Env → AH → Prop} {env : Env} {H : AH} {id : Nat} {l : List Oper} (hd : dstOk N l = true) (h : ALst P N l.toArray Q l env H) : AWp P N (.region id l.toArray false) Q env H :=
  fun a w r => wp_region_lit (wpList_of l env H a w hd h r (L.refl _ _))
theorem AWp.mono {P : Program} {N : Nat} {c : Code} {Q Q' : Exit → Env → AH → Prop} {env : Env} {H : AH} (h : AWp P N c Q env H) (hq : ∀ e env H, Q e env H → Q' e env H) : AWp P N c Q' env H :=
  fun a w r => wp_mono (h a w r) fun e _ _ => To.mono (hq e)
theorem AWp_skip {P : Program} {N : Nat} {Q : Exit → Env → AH → Prop} {env : Env} {H : AH} (h : Q .normal env H) : AWp P N .skip Q env H := fun _ _ r => wp_skip ⟨_, _, h, r, L.refl _ _⟩
theorem AWp_ret {P : Program} {N : Nat} {Q : Exit → Env → AH → Prop} {env : Env} {H : AH} (h : Q .ret env H) : AWp P N .ret Q env H := fun _ _ r => wp_ret ⟨_, _, h, r, L.refl _ _⟩
theorem AWp_exit {P : Program} {N : Nat} {Q : Exit → Env → AH → Prop} {env : Env} {H : AH} {id : Nat} (h : Q (.exit id) env H) : AWp P N (.exit id) Q env H := fun _ _ r => wp_exit ⟨_, _, h, r, L.refl _ _⟩
/-- What stands behind is a variable. -/
def thenE (K : Env → AH → Prop) (Q : Exit → Env → AH → Prop) : Exit → Env → AH → Prop
  | .normal => K
  | e => Q e
theorem AWp_seq {P : Program} {N : Nat} {Q : Exit → Env → AH → Prop} {env : Env} {H : AH} {x y : Code} (h : AWp P N x (thenE (AWp P N y Q) Q) env H) : AWp P N (.seq x y) Q env H := by
  intro a w r
  refine wp_seq (wp_mono (h a w r) ?_)
  intro e a' w' hto
  obtain ⟨env', H', k, r', l'⟩ := hto
  cases e with
  | normal =>
    refine wp_mono (k a' w' r') ?_
    intro e a'' w'' h''
    exact h''.after l'
  | _ => exact ⟨env', H', k, r', l'⟩
theorem AWp_seq_k {P : Program} {N : Nat} {Q : Exit → Env → AH → Prop} {env : Env} {H : AH} {x y : Code} (h : ∀ K : Env → AH → Prop, (∀ e h, AWp P N y Q e h → K e h) → AWp P N x (thenE K Q) env H) : AWp P N (.seq x y) Q env H :=
  AWp_seq (h _ fun _ _ h => h)
theorem AWp_cond {P : Program} {N : Nat} {Q : Exit → Env → AH → Prop} {env : Env} {H : AH} {c : Operand} {x y : Code} {t : Bool} (hc : env.ev c = .bool t) (ht : t = true → AWp P N x Q env H) (hf : t = false → AWp P N y Q env H) : AWp P N (.cond c x y) Q env H := by
  intro a w r
  have he : a.eval c = .bool t := cv_plain (by rw [← ev_envOf, r.env]; exact hc) rfl
  refine wp_cond he ?_
  cases t
  · exact hf rfl a w r
  · exact ht rfl a w r
def blockE (id : Nat) (Q : Exit → Env → AH → Prop) : Exit → Env → AH → Prop
  | .exit id' => fun env H => if id' = id then Q .normal env H else Q (.exit id') env H
  | e => Q e
theorem AWp_block {P : Program} {N : Nat} {Q : Exit → Env → AH → Prop} {env : Env} {H : AH} {id : Nat} {c : Code} (h : AWp P N c (blockE id Q) env H) : AWp P N (.block id c) Q env H := by
  intro a w r
  refine wp_block (wp_mono (h a w r) ?_)
  intro e a' w' hto
  cases e with
  | exit id' =>
    obtain ⟨env', H', k, r', l'⟩ := hto
    simp only [blockE] at k
    simp only [Exit.inBlock]
    by_cases hid : id' = id
    · rw [if_pos hid] at k ⊢; exact ⟨env', H', k, r', l'⟩
    · rw [if_neg hid] at k ⊢; exact ⟨env', H', k, r', l'⟩
  | _ => exact hto
/-- A loop: what holds at each round's head, and a measure. -/
theorem AWp_loop {P : Program} {N : Nat} {Q : Exit → Env → AH → Prop} {env : Env} {H : AH} {c : Code} (I : Nat → Env → AH → Prop) (n0 : Nat) (h0 : I n0 env H)
    (round : ∀ n env H, I n env H → AWp P N c (thenE (fun env' H' => ∃ m, m < n ∧ I m env' H') Q) env H) : AWp P N (.loop c) Q env H := by
  intro a w r
  -- the measure is carried in the invariant: 'the least n at which it holds'
  have key : ∀ n env1 H1 a1 w1, I n env1 H1 → Rel N env1 H1 a1 w1 → L H w H1 w1 → ∀ (b : Frame) (k : List Item) (cs : List Frame),
      ∃ e a' w', To N H w (Q e) a' w' ∧ Arrives P (lone (b.at a1 (.code c :: .inLoop c :: k)) cs w1) b k cs e a' w' := by
    intro n
    induction n using Nat.strongRecOn with
    | _ n ih =>
      intro env1 H1 a1 w1 hI r1 l1 b k cs
      obtain ⟨e, a2, w2, hto, harr⟩ := round n env1 H1 hI a1 w1 r1 b (.inLoop c :: k) cs
      obtain ⟨env2, H2, hk, r2, l2⟩ := hto
      cases e with
      | normal =>
        obtain ⟨m, hm, hI2⟩ := hk
        obtain ⟨e', a3, w3, hto3, harr3⟩ := ih m hm env2 H2 a2 w2 hI2 r2 (l1.trans l2) b k cs
        exact ⟨e', a3, w3, hto3, .of_steps (Steps.trans harr (.one step_inLoop)) harr3⟩
      | exit id => exact ⟨_, a2, w2, ⟨env2, H2, hk, r2, l1.trans l2⟩, .pass (x := .inLoop c) rfl (fun _ _ => .inl (by simp)) harr⟩
      | goto l => exact ⟨_, a2, w2, ⟨env2, H2, hk, r2, l1.trans l2⟩, .pass (x := .inLoop c) rfl (fun _ _ => .inl (by simp)) harr⟩
      | ret => exact ⟨_, a2, w2, ⟨env2, H2, hk, r2, l1.trans l2⟩, .pass (x := .inLoop c) rfl (fun _ _ => .inl (by simp)) harr⟩
      | panic ch => exact ⟨_, a2, w2, ⟨env2, H2, hk, r2, l1.trans l2⟩, .pass (x := .inLoop c) rfl (fun _ _ => .inl (by simp)) harr⟩
      | outgrown => exact ⟨_, a2, w2, ⟨env2, H2, hk, r2, l1.trans l2⟩, .pass (x := .inLoop c) rfl (fun _ _ => .inl (by simp)) harr⟩
  intro b k cs
  obtain ⟨e, a', w', hq, harr⟩ := key n0 env H a w h0 r (L.refl _ _) b k cs
  exact ⟨e, a', w', hq, .of_steps (.one step_loop) harr⟩

/-! ### 4. Calls -/
def ACalls (P : Program) (f : FuncId) (args : List Value) (H : AH) (R : Value → AH → Prop) : Prop :=
  ∀ w (cargs : Array Value), HR H w → cargs.toList.map cv = args →
    Calls P f cargs w fun e w' => ∃ v H', e = .returned v ∧ R (cv v) H' ∧ HR H' w' ∧ L H w H' w'
theorem ACalls.mono {P : Program} {f : FuncId} {args : List Value} {H : AH} {R R' : Value → AH → Prop} (h : ACalls P f args H R) (hr : ∀ v H, R v H → R' v H) : ACalls P f args H R' :=
  fun w c hh hc => (h w c hh hc).mono fun _ _ ⟨v, H', e, k, x⟩ => ⟨v, H', e, hr _ _ k, x⟩
def env0 (args : List Value) : Env := fun i => (args[i]?).getD undef
theorem envOf_enter (cargs : Array Value) (n : Nat) : envOf { tmps := cargs ++ Array.replicate n undef, defers := [] } = env0 (cargs.toList.map cv) := by
  funext i
  simp only [envOf, env0, Array.getD_eq_getD_getElem?, List.getElem?_map, Array.getElem?_append, Array.getElem?_toList, Array.getElem?_replicate]
  by_cases h : i < cargs.size
  · simp [h]
  · simp only [h, if_false]
    have : cargs[i]? = none := Array.getElem?_eq_none (by omega)
    rw [this]
    by_cases h2 : i - cargs.size < n <;> simp [h2]
/-- The results' places read. -/
def readsRes (P : Program) (fn : Func) (N : Nat) (env : Env) (H : AH) (R : Value → AH → Prop) : Prop :=
  ∀ a w, Rel N env H a w → ∃ v, (results fn a.tmps).run P w = .ok v w ∧ R (cv v) H
def retE (P : Program) (fn : Func) (N : Nat) (R : Value → AH → Prop) : Exit → Env → AH → Prop
  | .normal, env, H | .ret, env, H => readsRes P fn N env H R
  | _, _, _ => False
theorem ACalls_of {P : Program} {f : FuncId} {fn : Func} {c : Code} {args : List Value} {H : AH} {R : Value → AH → Prop} (hf : P.funcs[f]? = some fn) (hb : fn.body = some c) (hn : args.length ≤ fn.ntmps)
    (h : AWp P fn.ntmps c (retE P fn fn.ntmps R) (env0 args) H) : ACalls P f args H R := by
  intro w cargs hr hc
  refine calls_of_wp hf hb ?_
  have hlen : cargs.size = args.length := by rw [← hc]; simp
  have rel : Rel fn.ntmps (env0 args) H { tmps := cargs ++ Array.replicate (fn.ntmps - cargs.size) undef, defers := [] } w :=
    ⟨by rw [envOf_enter, hc], by simp; omega, rfl, hr⟩
  refine wp_mono (h _ w rel) ?_
  intro e a' w' hto
  obtain ⟨env', H', k, r', l'⟩ := hto
  cases e with
  | normal => obtain ⟨v, hv, hR⟩ := k a' w' r'; exact ⟨r'.defers, v, hv, v, H', rfl, hR, r'.hr, l'⟩
  | ret => obtain ⟨v, hv, hR⟩ := k a' w' r'; exact ⟨r'.defers, v, hv, v, H', rfl, hR, r'.hr, l'⟩
  | exit id => exact k.elim
  | goto l => exact k.elim
  | panic ch => exact k.elim
  | outgrown => exact k.elim
end Go.Ab

namespace Go.Ab
open Ieee

/-! ### 1. Floats: the results are no not-a-numbers where the model has a result, and hang on the view alone -/
theorem isN_lt (k : FloatKind) (s : Bool) (r : Nat) (h : r ≤ k.format.infRung) : isN k (k.format.word s r) = false := by
  have hi : k.format.infRung < k.format.signWeight := by cases k <;> decide
  have hm : k.format.word s r % k.format.signWeight = r := by
    unfold Format.word
    cases s
    · simp; exact Nat.mod_eq_of_lt (by omega)
    · simp [Nat.add_mod_left]; exact Nat.mod_eq_of_lt (by omega)
  unfold isN Format.read
  simp only [hm]
  by_cases h1 : r < k.format.binade
  · simp [h1, Datum.isNaN]
  · by_cases h2 : r < k.format.infRung
    · simp [h1, h2, Datum.isNaN]
    · have h3 : r = k.format.infRung := by omega
      rw [if_neg h1, if_neg h2, if_pos h3]; rfl
theorem isN_nearest (k : FloatKind) (s : Bool) (m : Nat) (e : Int) : isN k (k.format.nearest s m e) = false := by
  unfold Format.nearest
  split
  · exact isN_lt k s 0 (Nat.zero_le _)
  · exact isN_lt k s _ (Nat.min_le_right _ _)
theorem isN_write (k : FloatKind) (d : Datum) (h : d.isNaN = false) : isN k (k.format.write d) = false := by
  cases d with
  | number s m e => exact isN_nearest k s m e
  | infinity s => exact isN_lt k s _ (Nat.le_refl _)
  | nan s f => simp [Datum.isNaN] at h
theorem cn_of_not {k : FloatKind} {b : Nat} (h : isN k b = false) : cn k b = b := by simp [cn, h]
theorem read_cn (k : FloatKind) (b : Nat) (h : isN k b = false) : k.format.read (cn k b) = k.format.read b := by rw [cn_of_not h]
theorem read_nan {k : FloatKind} {b : Nat} (h : isN k b = true) : ∃ s f, k.format.read b = .nan s f := by
  unfold isN at h
  cases hr : k.format.read b with
  | nan s f => exact ⟨s, f, rfl⟩
  | number s m e => rw [hr] at h; cases h
  | infinity s => rw [hr] at h; cases h
/-- Two words are read alike, or both are none. -/
theorem read_alike (k : FloatKind) (b : Nat) : (isN k b = false ∧ k.format.read (cn k b) = k.format.read b) ∨ ((∃ s f, k.format.read b = .nan s f) ∧ ∃ s f, k.format.read (cn k b) = .nan s f) := by
  cases h : isN k b with
  | false => exact .inl ⟨rfl, read_cn k b h⟩
  | true => exact .inr ⟨read_nan h, read_nan (by unfold cn; rw [if_pos h]; exact isN_cnan k)⟩

theorem sum_notNaN {x y d : Datum} (h : x.sum y = some d) : d.isNaN = false := by
  cases x <;> cases y <;> simp [Datum.sum] at h
  all_goals first
    | (obtain ⟨_, rfl⟩ := h; rfl)
    | (subst h; rfl)
theorem product_notNaN {x y d : Datum} (h : x.product y = some d) : d.isNaN = false := by
  cases x <;> cases y <;> simp [Datum.product] at h
  all_goals first
    | (obtain ⟨_, rfl⟩ := h; rfl)
    | (subst h; rfl)
theorem quotient_notNaN {n : Nat} {x y d : Datum} (h : x.quotient n y = some d) : d.isNaN = false := by
  cases x <;> cases y <;> simp only [Datum.quotient] at h
  all_goals first
    | (cases h; done)
    | (injection h with h; subst h; rfl)
    | skip
  split at h
  · split at h
    · cases h
    · injection h with h; subst h; rfl
  · injection h with h; subst h; rfl
theorem root_notNaN {n : Nat} {x d : Datum} (h : x.root n = some d) : d.isNaN = false := by
  cases x <;> simp only [Datum.root] at h
  · split at h
    · injection h with h; subst h; rfl
    · split at h
      · cases h
      · injection h with h; subst h; rfl
  · split at h
    · cases h
    · injection h with h; subst h; rfl
  · cases h

inductive FOp where | add | sub | mul | div
  deriving DecidableEq
def FOp.bits (op : FOp) (k : FloatKind) (x y : Nat) : Option Nat :=
  match op with
  | .add => k.format.add x y
  | .sub => k.format.sub x y
  | .mul => k.format.mul x y
  | .div => k.format.div x y
/-- The operation on the view. -/
def fop (op : FOp) (k : FloatKind) (x y : Nat) : Nat := (op.bits k x y).getD (cnan k)
theorem opposite_isNaN (d : Datum) : d.opposite.isNaN = d.isNaN := by cases d <;> rfl
theorem bits_notNaN {op : FOp} {k : FloatKind} {x y r : Nat} (h : op.bits k x y = some r) : isN k r = false := by
  cases op <;> simp only [FOp.bits, Format.add, Format.sub, Format.mul, Format.div, Option.map_eq_some_iff] at h <;> obtain ⟨d, hd, rfl⟩ := h <;> refine isN_write k d ?_
  · exact sum_notNaN hd
  · exact sum_notNaN hd
  · exact product_notNaN hd
  · exact quotient_notNaN hd
theorem sum_nan_left (s : Bool) (f : Nat) (y : Datum) : (Datum.nan s f).sum y = none := by cases y <;> rfl
theorem sum_nan_right (s : Bool) (f : Nat) (y : Datum) : y.sum (Datum.nan s f) = none := by cases y <;> rfl
theorem product_nan_left (s : Bool) (f : Nat) (y : Datum) : (Datum.nan s f).product y = none := by cases y <;> rfl
theorem product_nan_right (s : Bool) (f : Nat) (y : Datum) : y.product (Datum.nan s f) = none := by cases y <;> rfl
theorem quotient_nan_left (n : Nat) (s : Bool) (f : Nat) (y : Datum) : (Datum.nan s f).quotient n y = none := by cases y <;> rfl
theorem quotient_nan_right (n : Nat) (s : Bool) (f : Nat) (y : Datum) : y.quotient n (Datum.nan s f) = none := by cases y <;> rfl
theorem bits_cn (op : FOp) (k : FloatKind) (x y : Nat) : op.bits k (cn k x) (cn k y) = op.bits k x y := by
  rcases read_alike k x with ⟨_, hx⟩ | ⟨⟨s, f, hx⟩, s', f', hx'⟩ <;> rcases read_alike k y with ⟨_, hy⟩ | ⟨⟨t, g, hy⟩, t', g', hy'⟩
  · cases op <;> simp only [FOp.bits, Format.add, Format.sub, Format.mul, Format.div, hx, hy]
  · cases op <;> simp only [FOp.bits, Format.add, Format.sub, Format.mul, Format.div, hx, hy, hy', Datum.opposite, sum_nan_right, product_nan_right, quotient_nan_right]
  · cases op <;> simp only [FOp.bits, Format.add, Format.sub, Format.mul, Format.div, hx, hx', hy, sum_nan_left, product_nan_left, quotient_nan_left]
  · cases op <;> simp only [FOp.bits, Format.add, Format.sub, Format.mul, Format.div, hx, hx', hy, hy', sum_nan_left, product_nan_left, quotient_nan_left]
def BinOp.fop? : BinOp → Option FOp
  | .add => some .add | .sub => some .sub | .mul => some .mul | .quo => some .div | _ => none
theorem isN_drawn (k : FloatKind) (t : Nat) (q : Question) (hq : (∃ x y, q = .nanBits k x y) ∨ (∃ b, q = .nanConv k b) ∨ (∃ m x y, q = .nanMinMax k m x y)) : isN k (q.cut t) = true := by
  have key : ∀ t : Nat, isN .f32 ((t % 2) * 2 ^ 31 + 0x7f800000 + 1 + (t / 2) % (2 ^ 23 - 1)) = true := by
    intro t
    have h1 : t % 2 < 2 := Nat.mod_lt _ (by omega)
    have h2 : (t / 2) % (2 ^ 23 - 1) < 2 ^ 23 - 1 := Nat.mod_lt _ (by omega)
    generalize (t / 2) % (2 ^ 23 - 1) = f at *
    generalize t % 2 = s at *
    have hm : (s * 2 ^ 31 + 0x7f800000 + 1 + f) % 2147483648 = 0x7f800001 + f := by omega
    have e1 : FloatKind.f32.format.signWeight = 2147483648 := by decide
    have e2 : FloatKind.f32.format.infRung = 0x7f800000 := by decide
    have e3 : FloatKind.f32.format.binade = 8388608 := by decide
    unfold isN Format.read
    simp only [e1, e2, e3, hm]
    rw [if_neg (by omega), if_neg (by omega), if_neg (by omega)]
    rfl
  have key2 : ∀ t : Nat, isN .f64 ((t % 2) * 2 ^ 63 + 0x7ff0000000000000 + 1 + (t / 2) % (2 ^ 52 - 1)) = true := by
    intro t
    have h1 : t % 2 < 2 := Nat.mod_lt _ (by omega)
    have h2 : (t / 2) % (2 ^ 52 - 1) < 2 ^ 52 - 1 := Nat.mod_lt _ (by omega)
    generalize (t / 2) % (2 ^ 52 - 1) = f at *
    generalize t % 2 = s at *
    have hm : (s * 2 ^ 63 + 0x7ff0000000000000 + 1 + f) % 9223372036854775808 = 0x7ff0000000000001 + f := by omega
    have e1 : FloatKind.f64.format.signWeight = 9223372036854775808 := by decide
    have e2 : FloatKind.f64.format.infRung = 0x7ff0000000000000 := by decide
    have e3 : FloatKind.f64.format.binade = 4503599627370496 := by decide
    unfold isN Format.read
    simp only [e1, e2, e3, hm]
    rw [if_neg (by omega), if_neg (by omega), if_neg (by omega)]
    rfl
  rcases hq with ⟨x, y, rfl⟩ | ⟨b, rfl⟩ | ⟨m, x, y, rfl⟩ <;> cases k <;> unfold Question.cut <;> dsimp only <;> first | with_reducible exact key t | with_reducible exact key2 t
theorem cn_drawn (k : FloatKind) (t : Nat) (q : Question) (hq : (∃ x y, q = .nanBits k x y) ∨ (∃ b, q = .nanConv k b) ∨ (∃ m x y, q = .nanMinMax k m x y)) : cn k (q.cut t) = cnan k := by
  unfold cn; rw [if_pos (isN_drawn k t q hq)]
theorem run_choose_nan {P : Program} {w : World} (k : FloatKind) (q : Question) (hq : (∃ x y, q = .nanBits k x y) ∨ (∃ b, q = .nanConv k b) ∨ (∃ m x y, q = .nanMinMax k m x y)) : ∃ u, (choose q).run P w = .ok u (w.drewN 1) ∧ cn k u = cnan k := by
  have hf : q.forced = false := by rcases hq with ⟨x, y, rfl⟩ | ⟨b, rfl⟩ | ⟨m, x, y, rfl⟩ <;> rfl
  exact ⟨q.cut (w.tape w.drawn q), by rw [run_choose_drew, if_neg (by simp [hf])]; rfl, cn_drawn k _ q hq⟩
theorem run_floatArith_cn {P : Program} (w : World) {op : BinOp} {fo : FOp} (ho : BinOp.fop? op = some fo) (k : FloatKind) (x y : Nat) :
    ∃ u n, (Op.floatArith op k x y).run P w = .ok (.float k u) (w.drewN n) ∧ cn k u = fop fo k (cn k x) (cn k y) := by
  have hb : (Op.floatArith op k x y).run P w = ((match fo.bits k x y with | some r => pure (.float k r) | none => do pure (.float k (← choose (.nanBits k x y)))) : Sem Value).run P w := by
    cases op <;> simp [BinOp.fop?] at ho <;> subst ho <;> simp [Op.floatArith, FOp.bits] <;> rfl
  rw [hb]
  unfold fop
  rw [bits_cn]
  cases h : fo.bits k x y with
  | some r => exact ⟨r, 0, rfl, cn_of_not (bits_notNaN h)⟩
  | none =>
    obtain ⟨u, hu, hc⟩ := run_choose_nan (P := P) (w := w) k (.nanBits k x y) (.inl ⟨x, y, rfl⟩)
    exact ⟨u, 1, by simp only [Sem.run_bind, hu, Result.andThen_ok, Sem.run_pure], hc⟩
theorem order_cn (k : FloatKind) (x y : Nat) : k.format.order (cn k x) (cn k y) = k.format.order x y := by
  unfold Format.order
  have nl : ∀ s f (d : Datum), (Datum.nan s f).order d = none := fun s f d => by cases d <;> rfl
  have nr : ∀ s f (d : Datum), d.order (Datum.nan s f) = none := fun s f d => by cases d <;> rfl
  rcases read_alike k x with ⟨_, hx⟩ | ⟨⟨s, f, hx⟩, s', f', hx'⟩ <;> rcases read_alike k y with ⟨_, hy⟩ | ⟨⟨t, g, hy⟩, t', g', hy'⟩
  · rw [hx, hy]
  · rw [hx, hy, hy', nr, nr]
  · rw [hx, hx', nl, nl]
  · rw [hx, hx', nl, nl]
/-- The opposite number in the view. -/
def fneg (k : FloatKind) (x : Nat) : Nat := if isN k x then cnan k else Op.negFloat k x
theorem negFloat_isN (k : FloatKind) (x : Nat) : isN k (Op.negFloat k x) = isN k x := by
  have hs : k.format.signWeight = 2 ^ (k.format.exponentBits + k.format.fractionBits) := rfl
  have hm : Op.negFloat k x % k.format.signWeight = x % k.format.signWeight := by
    unfold Op.negFloat
    rw [hs]
    apply Nat.eq_of_testBit_eq
    intro i
    simp only [Nat.testBit_mod_two_pow, Nat.testBit_xor, Nat.testBit_two_pow]
    by_cases h : i < k.format.exponentBits + k.format.fractionBits
    · have : ¬ (k.format.exponentBits + k.format.fractionBits = i) := by omega
      simp [h, this]
    · simp [h]
  unfold isN Format.read
  simp only [hm]
  split
  · rfl
  · split
    · rfl
    · split <;> rfl
theorem cn_negFloat (k : FloatKind) (x : Nat) : cn k (Op.negFloat k x) = fneg k (cn k x) := by
  unfold fneg
  by_cases h : isN k x = true
  · have h1 : isN k (cn k x) = true := by unfold cn; rw [if_pos h]; exact isN_cnan k
    rw [if_pos h1]
    unfold cn; rw [if_pos (by rw [negFloat_isN]; exact h)]
  · have h' : isN k x = false := by simpa using h
    rw [cn_of_not h', if_neg h, cn_of_not (by rw [negFloat_isN]; exact h')]

/-- From one format to the other; 'none': the number is out of range, and Go leaves the result open. -/
def fconv (src dst : FloatKind) (x : Nat) : Option Nat :=
  if src = dst then some x else
  match src.decode x with
  | .nan _ _ => some (cnan dst)
  | .infinity s => some (dst.encode (.infinity s))
  | .number s m e => if (dst.decode (dst.encode (.number s m e))).isInfinity then none else some (dst.encode (.number s m e))
theorem run_floatToFloat_cn {P : Program} (w : World) (src dst : FloatKind) (x r : Nat) (h : fconv src dst (cn src x) = some r) : ∃ u n, (Conv.floatToFloat src x dst).run P w = .ok (.float dst u) (w.drewN n) ∧ cn dst u = r := by
  unfold fconv at h
  unfold Conv.floatToFloat
  by_cases he : src = dst
  · subst he
    rw [if_pos rfl] at h
    rw [if_pos rfl]
    exact ⟨x, 0, rfl, by injection h⟩
  · rw [if_neg he] at h
    rw [if_neg he]
    rcases read_alike src x with ⟨_, hx⟩ | ⟨⟨s, f, hx⟩, s', f', hx'⟩
    · have hx' : src.decode (cn src x) = src.decode x := hx
      rw [hx'] at h
      cases hd : src.decode x with
      | nan s f => exact absurd hd (by have h1 : isN src x = false := by assumption
                                       intro hd; unfold isN at h1; unfold FloatKind.decode at hd; rw [hd] at h1; cases h1)
      | infinity s =>
        rw [hd] at h
        simp only [Option.some.injEq] at h
        subst h
        exact ⟨_, 0, rfl, cn_of_not (isN_write dst _ rfl)⟩
      | number s m e =>
        rw [hd] at h
        dsimp only at h ⊢
        split at h
        · cases h
        · rename_i hinf
          simp only [Option.some.injEq] at h
          subst h
          exact ⟨_, 0, by rw [if_neg hinf]; rfl, cn_of_not (isN_write dst _ rfl)⟩
    · have hx1 : src.decode x = .nan s f := hx
      have hx2 : src.decode (cn src x) = .nan s' f' := hx'
      rw [hx2] at h
      rw [hx1]
      simp only [Option.some.injEq] at h
      subst h
      obtain ⟨u, hu, hc⟩ := run_choose_nan (P := P) (w := w) dst (.nanConv dst x) (.inr (.inl ⟨x, rfl⟩))
      exact ⟨u, 1, by simp only [Sem.run_bind, hu, Result.andThen_ok, Sem.run_pure], hc⟩
def fsqrt (k : FloatKind) (x : Nat) : Nat := (k.format.sqrt x).getD (cnan k)
theorem run_sqrt_cn {P : Program} (w : World) (x : Nat) : ∃ u n, (Extern.MathSqrt.sqrt #[.float .f64 x]).run P w = .ok (.float .f64 u) (w.drewN n) ∧ cn .f64 u = fsqrt .f64 (cn .f64 x) := by
  unfold fsqrt
  have hc : FloatKind.f64.format.sqrt (cn .f64 x) = FloatKind.f64.format.sqrt x := by
    unfold Format.sqrt
    rcases read_alike .f64 x with ⟨_, hx⟩ | ⟨⟨s, f, hx⟩, s', f', hx'⟩
    · rw [hx]
    · rw [hx, hx']; rfl
  rw [hc]
  cases h : FloatKind.f64.format.sqrt x with
  | some r =>
    refine ⟨r, 0, ?_, cn_of_not ?_⟩
    · change (match FloatKind.f64.format.sqrt x with | some r => pure (.float .f64 r) | none => do pure (.float .f64 (← choose (.nanBits .f64 x x))) : Sem Value).run P w = _
      rw [h]; rfl
    unfold Format.sqrt at h
    simp only [Option.map_eq_some_iff] at h
    obtain ⟨d, hd, rfl⟩ := h
    exact isN_write _ d (root_notNaN hd)
  | none =>
    obtain ⟨u, hu, hc⟩ := run_choose_nan (P := P) (w := w) .f64 (.nanBits .f64 x x) (.inl ⟨x, x, rfl⟩)
    refine ⟨u, 1, ?_, hc⟩
    change (match FloatKind.f64.format.sqrt x with | some r => pure (.float .f64 r) | none => do pure (.float .f64 (← choose (.nanBits .f64 x x))) : Sem Value).run P w = _
    rw [h]; simp only [Sem.run_bind, hu, Result.andThen_ok, Sem.run_pure]
end Go.Ab

namespace Go.Ab

/-! ### 1. The types' table -/
def tsz (P : Program) (t : TypeId) : Option Nat := (P.info? t).map (·.size)
def tagg (P : Program) (t : TypeId) : Option Bool := (P.underlying t).map fun d => match d with | .struct _ | .array _ _ => true | _ => false
def tfield (P : Program) (t : TypeId) (i : Nat) : Option (Nat × TypeId) :=
  match P.underlying t with
  | some (.struct fs) => (fs[i]?).map fun f => (f.offset, f.type)
  | _ => none
def tslice (P : Program) (t : TypeId) : Option TypeId := match P.underlying t with | some (.slice e) => some e | _ => none
def tarr (P : Program) (t : TypeId) : Option (Nat × TypeId) := match P.underlying t with | some (.array n e) => some (n, e) | _ => none
def tmap (P : Program) (t : TypeId) : Option (TypeId × TypeId) := match P.underlying t with | some (.map k e) => some (k, e) | _ => none
def tint (P : Program) (t : TypeId) : Option IntKind := match P.underlying t with | some (.int k) => some k | _ => none
def tflt (P : Program) (t : TypeId) : Option FloatKind := match P.underlying t with | some (.float k) => some k | _ => none
def tstr (P : Program) (t : TypeId) : Bool := match P.underlying t with | some .string => true | _ => false
def tbool (P : Program) (t : TypeId) : Bool := match P.underlying t with | some .bool => true | _ => false
def tzero (P : Program) (t : TypeId) : Option Value := (P.info? t).bind (·.zero)
/-- Where a part of a struct or of an array lies, and how many cells it has. -/
def tplace (P : Program) (t : TypeId) (i : Nat) : Option (Nat × Nat) :=
  match P.underlying t with
  | some (.struct fs) => (fs[i]?).bind fun f => (tsz P f.type).map fun n => (f.offset, n)
  | some (.array _ e) => (tsz P e).map fun n => (i * n, n)
  | _ => none

section
variable {P : Program} {w : World}
theorem tsz_run {t n : Nat} (h : tsz P t = some n) : (sizeOf t).run P w = .ok n w := by
  unfold tsz at h
  cases hi : P.info? t with
  | none => rw [hi] at h; cases h
  | some i => rw [hi] at h; simp only [Option.map_some, Option.some.injEq] at h; simp [sizeOf, typeInfo, hi, h]
theorem tagg_run {t : Nat} {b : Bool} (h : tagg P t = some b) : (isAgg t).run P w = .ok b w := by
  unfold tagg at h
  cases hu : P.underlying t with
  | none => rw [hu] at h; cases h
  | some d => rw [hu] at h; simp only [Option.map_some, Option.some.injEq] at h; subst h; simp only [isAgg, Sem.run_bind, run_underlying hu, Result.andThen_ok]; cases d <;> rfl
theorem tslice_u {t e : Nat} (h : tslice P t = some e) : P.underlying t = some (.slice e) := by
  unfold tslice at h; split at h <;> simp_all
theorem tarr_u {t n e : Nat} (h : tarr P t = some (n, e)) : P.underlying t = some (.array n e) := by
  unfold tarr at h; split at h <;> simp_all
theorem tmap_u {t n e : Nat} (h : tmap P t = some (n, e)) : P.underlying t = some (.map n e) := by
  unfold tmap at h; split at h <;> simp_all
theorem tint_u {t : Nat} {k : IntKind} (h : tint P t = some k) : P.underlying t = some (.int k) := by
  unfold tint at h; split at h <;> simp_all
theorem tflt_u {t : Nat} {k : FloatKind} (h : tflt P t = some k) : P.underlying t = some (.float k) := by
  unfold tflt at h; split at h <;> simp_all
theorem tstr_u {t : Nat} (h : tstr P t = true) : P.underlying t = some .string := by
  unfold tstr at h; split at h <;> simp_all
theorem tbool_u {t : Nat} (h : tbool P t = true) : P.underlying t = some .bool := by
  unfold tbool at h; split at h <;> simp_all
end

/-! ### 2. Reads of memory -/
def oneC : Value → Bool
  | .agg _ | .tuple _ => false
  | _ => true
theorem cv_of_cv1 {c x : Value} (h : cv1 c = x) (ho : oneC x = true) : cv c = x := by
  subst h; cases c <;> simp_all [cv, cv2, cv1, oneC]
def rd1 (H : AH) (a : Addr) : Option Value :=
  match H a.block with
  | some (.cells l _ _ _) => if a.spot = none then (l[a.off]?).bind fun x => if oneC x then some x else none else none
  | _ => none
def rdN (H : AH) (a : Addr) (n : Nat) : Option (List Value) :=
  match H a.block with
  | some (.cells l _ _ _) => if a.spot = none ∧ a.off + n ≤ l.length then some ((l.drop a.off).take n) else none
  | _ => none
def dload (P : Program) (H : AH) (t : TypeId) (a : Addr) : Option Value :=
  match tagg P t, tsz P t with
  | some true, some n => (rdN H a n).map fun l => .agg l.toArray
  | some false, _ => rd1 H a
  | _, _ => none
theorem HR.cell {H : AH} {w : World} (h : HR H w) {b i : Nat} {l : List Value} {e : TypeId} {own : Bool} {room : Nat} (hb : H b = some (.cells l e own room)) (hi : i < l.length) :
    ∃ c, w.cell? ⟨b, i, none⟩ = some c ∧ cv1 c = l[i] := by
  obtain ⟨o, ho, hR⟩ := h b _ hb
  cases o with
  | cells cs e' frz =>
    obtain ⟨_, hs, hl, hc, _⟩ := hR
    have hh := hc i hi
    rw [List.getElem?_eq_getElem hi] at hh
    cases hci : cs[i]? with
    | none => rw [hci] at hh; cases hh
    | some c => rw [hci] at hh; simp only [Option.map_some, Option.some.injEq] at hh; exact ⟨c, by simp [World.cell?, ho, hci], hh⟩
  | _ => exact hR.elim
theorem addr_add (b o n : Nat) : (⟨b, o, none⟩ : Addr).add n = ⟨b, o + n, none⟩ := by unfold Addr.add; split <;> simp_all
theorem rd1_run {P : Program} {H : AH} {w : World} (h : HR H w) {a : Addr} {x : Value} (hx : rd1 H a = some x) : ∃ c, (load a).run P w = .ok c w ∧ cv c = x := by
  unfold rd1 at hx
  obtain ⟨b, o, sp⟩ := a
  cases hb : H b with
  | none => simp [hb] at hx
  | some blk =>
    cases blk with
    | map es c => simp [hb] at hx
    | cells l e own room =>
      simp only [hb] at hx
      split at hx
      · rename_i hsp
        cases hl : l[o]? with
        | none => simp [hl] at hx
        | some y =>
          obtain ⟨ho, hy⟩ := List.getElem?_eq_some_iff.1 hl
          simp only [hl, Option.bind_some] at hx
          split at hx
          · rename_i h1
            injection hx with hx
            obtain ⟨c, hc, hcv⟩ := h.cell hb ho
            subst hsp
            refine ⟨c, by simp [run_load, hc], ?_⟩
            rw [hy, hx] at hcv
            exact cv_of_cv1 hcv (by rw [← hx]; exact h1)
          · cases hx
      · cases hx
theorem rdN_run {P : Program} {H : AH} {w : World} (h : HR H w) {a : Addr} {n : Nat} {xs : List Value} (hx : rdN H a n = some xs) : ∃ cs : List Value, (loadCells a n).run P w = .ok cs.toArray w ∧ cs.map cv1 = xs ∧ cs.length = n ∧ (∀ j u, cs[j]? = some u → w.cell? (a.add j) = some u) := by
  unfold rdN at hx
  obtain ⟨b, o, sp⟩ := a
  cases hb : H b with
  | none => simp [hb] at hx
  | some blk =>
    cases blk with
    | map es c => simp [hb] at hx
    | cells l e own room =>
      simp only [hb] at hx
      split at hx
      · rename_i hc
        obtain ⟨hsp, hle⟩ := hc
        subst hsp
        injection hx with hx
        have hcell : ∀ j, j < n → ∃ c, w.cell? ⟨b, o + j, none⟩ = some c ∧ some (cv1 c) = l[o + j]? := fun j hj => by
          obtain ⟨c, h1, h2⟩ := h.cell hb (i := o + j) (by omega)
          exact ⟨c, h1, by rw [h2, List.getElem?_eq_getElem (by omega)]⟩
        let f : Nat → Value := fun j => (w.cell? ⟨b, o + j, none⟩).getD undef
        have hf : ∀ j, j < n → w.cell? ((⟨b, o, none⟩ : Addr).add j) = some (f j) := fun j hj => by
          obtain ⟨c, h1, _⟩ := hcell j hj
          rw [addr_add]; simp [f, h1]
        refine ⟨(List.range n).map f, ?_, ?_, by simp, ?_⟩
        · rw [run_loadCells w _ n f hf]
        · rw [← hx]
          apply List.ext_getElem?
          intro j
          simp only [List.getElem?_map, List.getElem?_take, List.getElem?_drop]
          by_cases hj : j < n
          · obtain ⟨c, h1, h2⟩ := hcell j hj
            rw [if_pos hj, ← h2]
            simp [List.getElem?_range hj, f, h1]
          · rw [if_neg hj]
            rw [List.getElem?_eq_none (l := List.range n) (by simp; omega)]; rfl
        · intro j u hu
          simp only [List.getElem?_map] at hu
          by_cases hj : j < n
          · rw [List.getElem?_range hj] at hu
            simp only [Option.map_some, Option.some.injEq] at hu
            rw [← hu]; exact hf j hj
          · rw [List.getElem?_eq_none (l := List.range n) (by simp; omega)] at hu; cases hu
      · cases hx
theorem dload_run {P : Program} {H : AH} {w : World} (h : HR H w) {t : TypeId} {a : Addr} {x : Value} (hx : dload P H t a = some x) : ∃ c, (loadVar t a).run P w = .ok c w ∧ cv c = x := by
  unfold dload at hx
  split at hx
  · rename_i n ha hs
    cases hr : rdN H a n with
    | none => rw [hr] at hx; cases hx
    | some xs =>
      rw [hr] at hx
      simp only [Option.map_some, Option.some.injEq] at hx
      obtain ⟨cs, h1, h2, _⟩ := rdN_run (P := P) h hr
      refine ⟨.agg cs.toArray, ?_, ?_⟩
      · simp only [loadVar, Sem.run_bind, tagg_run ha, Result.andThen_ok, if_true, tsz_run hs, h1, Sem.run_pure]
      · subst hx; simp [cv, cv2, ← h2]
  · rename_i ha
    obtain ⟨c, h1, h2⟩ := rd1_run (P := P) h hx
    exact ⟨c, by simp only [loadVar, Sem.run_bind, tagg_run ha, Result.andThen_ok, Bool.false_eq_true, if_false, h1], h2⟩
  · cases hx

/-! ### 3. Operators -/
def dcmpI (op : BinOp) (a b : Int) : Option Value :=
  match op with
  | .eql => some (.bool (a == b))
  | .neq => some (.bool (a != b))
  | .lss => some (.bool (decide (a < b)))
  | .leq => some (.bool (decide (a ≤ b)))
  | .gtr => some (.bool (decide (b < a)))
  | .geq => some (.bool (decide (b ≤ a)))
  | _ => none
def dint (op : BinOp) (k : IntKind) (a b : Int) : Option Value :=
  match op with
  | .add => some (.int k (k.wrap (a + b)))
  | .sub => some (.int k (k.wrap (a - b)))
  | .mul => some (.int k (k.wrap (a * b)))
  | .quo => if b = 0 then none else some (.int k (k.wrap (a.tdiv b)))
  | .rem => if b = 0 then none else some (.int k (a.tmod b))
  | .and => some (.int k (k.wrap (BitVec.ofInt k.bits a &&& BitVec.ofInt k.bits b).toNat))
  | .or => some (.int k (k.wrap (BitVec.ofInt k.bits a ||| BitVec.ofInt k.bits b).toNat))
  | .xor => some (.int k (k.wrap (BitVec.ofInt k.bits a ^^^ BitVec.ofInt k.bits b).toNat))
  | .andNot => some (.int k (k.wrap (BitVec.ofInt k.bits a &&& ~~~BitVec.ofInt k.bits b).toNat))
  | .shl => if b < 0 then none else some (.int k (k.wrap (a * 2 ^ (min b.toNat k.bits))))
  | .shr => if b < 0 then none else some (.int k (a.fdiv (2 ^ (min b.toNat k.bits))))
  | op => dcmpI op a b
def dflt (op : BinOp) (k : FloatKind) (x y : Nat) : Option Value :=
  match op with
  | .add => some (.float k (fop .add k x y))
  | .sub => some (.float k (fop .sub k x y))
  | .mul => some (.float k (fop .mul k x y))
  | .quo => some (.float k (fop .div k x y))
  | .eql => some (.bool (k.format.order x y == some .eq))
  | .neq => some (.bool (k.format.order x y != some .eq))
  | .lss => some (.bool (k.format.order x y == some .lt))
  | .leq => some (.bool (k.format.order x y == some .lt || k.format.order x y == some .eq))
  | .gtr => some (.bool (k.format.order x y == some .gt))
  | .geq => some (.bool (k.format.order x y == some .gt || k.format.order x y == some .eq))
  | _ => none
def dstr (op : BinOp) (x y : ByteArray) : Option Value :=
  match op with
  | .add => if x.size + y.size ≤ 9223372036854775807 then some (.string (x ++ y)) else none
  | .eql => some (.bool (x.toList == y.toList))
  | .neq => some (.bool (!(x.toList == y.toList)))
  | _ => none
/-- '==' and '!=' on arrays and structs, where each cell is an integer. -/
def dbin (P : Program) (op : BinOp) (t : TypeId) : Value → Value → Option Value
  | .int k a, .int k' b => if op = .shl ∨ op = .shr then dint op k a b else if k = k' then dint op k a b else none
  | .float k x, .float k' y => if k = k' then dflt op k x y else none
  | .string x, .string y => dstr op x y
  | .bool a, .bool b => if tbool P t then (match op with | .eql => some (.bool (a == b)) | .neq => some (.bool (!(a == b))) | _ => none) else none
  | _, _ => none
theorem run_intCmp {P : Program} (w : World) {op : BinOp} {a b : Int} {v : Value} (h : dcmpI op a b = some v) : (Op.intCmp op a b).run P w = .ok v w := by
  cases op <;> simp [dcmpI] at h <;> subst h <;> rfl
theorem eqGuard_run {P : Program} (w : World) (op : BinOp) (t : TypeId) (x y : Operand) (a b : Value) (h : ∀ u v, ¬ (a = .agg u ∧ b = .agg v)) (h2 : ¬ (a = .nilIface ∧ b = .nilIface)) : (eqGuard op t x y a b).run P w = .ok () w := by
  have key : ∀ c : Bool, (if c then pure () else pure () : Sem Unit).run P w = .ok () w := fun c => by cases c <;> rfl
  unfold eqGuard
  cases a <;> cases b <;> first
    | exact absurd ⟨rfl, rfl⟩ h2
    | exact absurd ⟨rfl, rfl⟩ (h _ _)
    | exact key _
theorem dint_run {P : Program} (w : World) {op : BinOp} {k k' : IntKind} {a b : Int} {v : Value} (t : TypeId) (h : dbin P op t (.int k a) (.int k' b) = some v) : (binOp op t (.int k a) (.int k' b)).run P w = .ok v w := by
  simp only [dbin] at h
  by_cases hs : op = .shl ∨ op = .shr
  · rw [if_pos hs] at h
    rcases hs with rfl | rfl <;> simp only [dint] at h <;> split at h <;> first
      | (cases h; done)
      | (rename_i hb; injection h with h; subst h; simp only [binOp, Op.shift, if_neg hb]; rfl)
  · rw [if_neg hs] at h
    split at h
    · rename_i hk
      subst hk
      cases op <;> simp only [dint] at h <;> first
        | (simp at hs; done)
        | (injection h with h; subst h; simp [binOp, Op.intArith, Op.intBits]; done)
        | (split at h <;> first | (cases h; done) | (rename_i hb; injection h with h; subst h; simp only [binOp, ne_eq, not_true, if_false, Op.intDiv, if_neg hb]; rfl))
        | (simp only [binOp, ne_eq, not_true, if_false]; exact run_intCmp w h)
    · cases h
theorem dflt_run {P : Program} (w : World) {op : BinOp} {k : FloatKind} {x y : Nat} {v : Value} (t : TypeId) (h : dflt op k (cn k x) (cn k y) = some v) : ∃ u n, (binOp op t (.float k x) (.float k y)).run P w = .ok u (w.drewN n) ∧ cv u = v := by
  have ha : ∀ fo, BinOp.fop? op = some fo → ∃ u n, (Op.floatArith op k x y).run P w = .ok u (w.drewN n) ∧ cv u = .float k (fop fo k (cn k x) (cn k y)) := fun fo hf => by
    obtain ⟨u, n, h1, h2⟩ := run_floatArith_cn (P := P) w hf k x y
    exact ⟨_, n, h1, by simp [h2]⟩
  cases op <;> simp only [dflt] at h <;> first
    | (cases h; done)
    | (injection h with h; subst h; simp only [binOp, ne_eq, not_true, if_false]; exact ha _ rfl)
    | (injection h with h; subst h; refine ⟨_, 0, ?_, cv_bool _⟩; rw [order_cn]; simp only [binOp, ne_eq, not_true, if_false]; rfl)
theorem dstr_run {P : Program} (w : World) {op : BinOp} {x y : ByteArray} {v : Value} (t : TypeId) (h : dstr op x y = some v) : (binOp op t (.string x) (.string y)).run P w = .ok v w := by
  cases op <;> simp only [dstr] at h <;> first
    | (cases h; done)
    | (injection h with h; subst h; rfl)
    | (split at h
       · rename_i hs; injection h with h; subst h; simp only [binOp]; exact run_string_add_sum w x y hs
       · cases h)
theorem equalIn_bool {P : Program} (w : World) (d : Nat) {t : TypeId} (hu : P.underlying t = some .bool) (a b : Bool) : (Op.equalIn (d + 1) t (.bool a) (.bool b)).run P w = .ok (a == b) w := by
  simp only [Op.equalIn, Sem.run_bind, run_underlying hu, Result.andThen_ok]; rfl
theorem dbool_run {P : Program} (w : World) {op : BinOp} {a b : Bool} {v : Value} (t : TypeId) (h : dbin P op t (.bool a) (.bool b) = some v) : (binOp op t (.bool a) (.bool b)).run P w = .ok v w := by
  simp only [dbin] at h
  split at h
  · rename_i hb
    have hu := tbool_u hb
    have he : (Op.equal t (.bool a) (.bool b)).run P w = .ok (a == b) w := equalIn_bool w 9999 hu a b
    cases op <;> simp at h <;> subst h <;> simp [binOp, he]
  · cases h
theorem dbin_run {P : Program} (w : World) {op : BinOp} {a b v : Value} (t : TypeId) (x y : Operand) (h : dbin P op t (cv a) (cv b) = some v) :
    ∃ u n, (do eqGuard op t x y a b; binOp op t a b : Sem Value).run P w = .ok u (w.drewN n) ∧ cv u = v := by
  have plainV : ∀ u : Value, (∃ k n, v = .int k n) ∨ (∃ b, v = .bool b) ∨ (∃ s, v = .string s) → u = v → cv u = v := by
    rintro u (⟨k, n, rfl⟩ | ⟨b, rfl⟩ | ⟨s, rfl⟩) rfl <;> rfl
  cases ha : cv a with
  | int k i =>
    have ha' := cv_plain ha rfl
    subst ha'
    cases hb : cv b with
    | int k' j =>
      have hb' := cv_plain hb rfl
      subst hb'
      rw [ha, hb] at h
      have hr := dint_run w t h
      refine ⟨v, 0, by simp only [Sem.run_bind, eqGuard_run w op t x y (.int k i) (.int k' j) (by simp) (by simp), Result.andThen_ok, hr]; rfl, ?_⟩
      simp only [dbin] at h
      have : ∀ {v}, dint op k i j = some v → cv v = v := by
        intro v h
        cases op <;> simp only [dint, dcmpI] at h <;> first
          | (cases h; done)
          | (injection h with h; subst h; rfl)
          | (split at h <;> first | (cases h; done) | (injection h with h; subst h; rfl))
      split at h
      · exact this h
      · split at h
        · exact this h
        · cases h
    | _ => rw [ha, hb] at h; simp [dbin] at h
  | float k i =>
    obtain ⟨i', rfl, hi⟩ := cv_isfloat ha
    cases hb : cv b with
    | float k' j =>
      obtain ⟨j', rfl, hj⟩ := cv_isfloat hb
      rw [ha, hb] at h
      simp only [dbin] at h
      split at h
      · rename_i hk
        subst hk
        rw [← hi, ← hj] at h
        obtain ⟨u, n, h1, h2⟩ := dflt_run (P := P) w t h
        exact ⟨u, n, by simp only [Sem.run_bind, eqGuard_run w op t x y (.float k i') (.float k j') (by simp) (by simp), Result.andThen_ok, h1], h2⟩
      · cases h
    | _ => rw [ha, hb] at h; simp [dbin] at h
  | string s =>
    have ha' := cv_plain ha rfl
    subst ha'
    cases hb : cv b with
    | string s' =>
      have hb' := cv_plain hb rfl
      subst hb'
      rw [ha, hb] at h
      simp only [dbin] at h
      refine ⟨v, 0, by simp only [Sem.run_bind, eqGuard_run w op t x y (.string s) (.string s') (by simp) (by simp), Result.andThen_ok, dstr_run w t h]; rfl, ?_⟩
      cases op <;> simp only [dstr] at h <;> first
        | (cases h; done)
        | (injection h with h; subst h; rfl)
        | (split at h <;> first | (cases h; done) | (injection h with h; subst h; rfl))
    | _ => rw [ha, hb] at h; simp [dbin] at h
  | bool p =>
    have ha' := cv_plain ha rfl
    subst ha'
    cases hb : cv b with
    | bool q =>
      have hb' := cv_plain hb rfl
      subst hb'
      rw [ha, hb] at h
      refine ⟨v, 0, by simp only [Sem.run_bind, eqGuard_run w op t x y (.bool p) (.bool q) (by simp) (by simp), Result.andThen_ok, dbool_run w t h]; rfl, ?_⟩
      simp only [dbin] at h
      split at h
      · cases op <;> simp at h <;> subst h <;> rfl
      · cases h
    | _ => rw [ha, hb] at h; simp [dbin] at h
  | _ => rw [ha] at h; cases cv b <;> simp [dbin] at h
def dun (op : UnOp) : Value → Option Value
  | .int k n => match op with | .neg => some (.int k (k.wrap (0 - n))) | _ => none
  | .float k x => match op with | .neg => some (.float k (fneg k x)) | _ => none
  | .bool b => match op with | .not => some (.bool (!b)) | _ => none
  | _ => none
theorem dun_run {P : Program} (w : World) {op : UnOp} {a v : Value} (h : dun op (cv a) = some v) : ∃ u, (Op.unary op a).run P w = .ok u w ∧ cv u = v := by
  cases ha : cv a with
  | int k n =>
    have ha' := cv_plain ha rfl; subst ha'; rw [ha] at h
    cases op <;> simp only [dun] at h <;> first | (cases h; done) | (injection h with h; subst h; exact ⟨_, rfl, cv_int _ _⟩)
  | bool b =>
    have ha' := cv_plain ha rfl; subst ha'; rw [ha] at h
    cases op <;> simp [dun] at h; subst h; exact ⟨_, rfl, rfl⟩
  | float k x =>
    obtain ⟨x', rfl, hx⟩ := cv_isfloat ha
    rw [ha] at h
    cases op <;> simp [dun] at h
    subst h
    exact ⟨.float k (Op.negFloat k x'), rfl, by simp [cn_negFloat, hx]⟩
  | _ => rw [ha] at h; simp [dun] at h
/-- Conversions between numbers. A float that is no number of the kind: 'none'. -/
def dconv (P : Program) (src dst : TypeId) : Value → Option Value
  | .int _ n => if (P.underlying src).isSome then (match tint P dst, tflt P dst with
      | some k, _ => some (.int k (k.wrap n))
      | none, some k => some (.float k (k.nearest n))
      | _, _ => none) else none
  | .float s x => if (P.underlying src).isSome then (match tint P dst, tflt P dst with
      | some k, _ => match (s.decode x).toInt .zero with
        | some n => if k.min ≤ n ∧ n ≤ k.max then some (.int k n) else none
        | none => none
      | none, some k => (fconv s k x).map (.float k)
      | _, _ => none) else none
  | .string s => if tstr P src ∧ tstr P dst then some (.string s) else none
  | _ => none
theorem toInt_nan (way : Ieee.Toward) (s : Bool) (f : Nat) : (Ieee.Datum.nan s f).toInt way = none := rfl
theorem dconv_run {P : Program} (w : World) {src dst : TypeId} {a v : Value} (h : dconv P src dst (cv a) = some v) : ∃ u n, (convert src dst a).run P w = .ok u (w.drewN n) ∧ cv u = v := by
  cases ha : cv a with
  | int k n =>
    have ha' := cv_plain ha rfl; subst ha'; rw [ha] at h
    simp only [dconv] at h
    split at h
    · rename_i hsrc
      obtain ⟨d, hd⟩ := Option.isSome_iff_exists.1 hsrc
      split at h
      · rename_i k' hk
        injection h with h; subst h
        refine ⟨_, 0, ?_, cv_int _ _⟩
        simp only [convert, Sem.run_bind, run_underlying hd, run_underlying (tint_u hk), Result.andThen_ok]; rfl
      · rename_i k' _ hk
        injection h with h; subst h
        refine ⟨.float k' (k'.nearest n), 0, ?_, by simp only [cv_float]; rw [cn_of_not]; exact isN_nearest _ _ _ _⟩
        simp only [convert, Sem.run_bind, run_underlying hd, run_underlying (tflt_u hk), Result.andThen_ok]; rfl
      · cases h
    · cases h
  | float s x =>
    obtain ⟨x', rfl, hx⟩ := cv_isfloat ha
    rw [ha] at h
    simp only [dconv] at h
    split at h
    · rename_i hsrc
      obtain ⟨d, hd⟩ := Option.isSome_iff_exists.1 hsrc
      split at h
      · rename_i k' hk
        have hdec : (s.decode x).toInt .zero = (s.decode x').toInt .zero := by
          rw [← hx]
          unfold FloatKind.decode
          rcases read_alike s x' with ⟨_, hr⟩ | ⟨⟨s1, f1, hr⟩, s2, f2, hr'⟩
          · rw [hr]
          · rw [hr, hr', toInt_nan, toInt_nan]
        rw [hdec] at h
        split at h
        · rename_i n hn
          split at h
          · rename_i hrng
            injection h with h; subst h
            refine ⟨_, 0, ?_, cv_int _ _⟩
            simp only [convert, Sem.run_bind, run_underlying hd, run_underlying (tint_u hk), Result.andThen_ok, Conv.floatToInt, hn, if_pos hrng]; rfl
          · cases h
        · cases h
      · rename_i k' _ hk
        cases hf : fconv s k' x with
        | none => rw [hf] at h; cases h
        | some r =>
          rw [hf] at h
          simp only [Option.map_some, Option.some.injEq] at h
          subst h
          rw [← hx] at hf
          obtain ⟨u, n, h1, h2⟩ := run_floatToFloat_cn (P := P) w s k' x' r hf
          refine ⟨.float k' u, n, ?_, by rw [cv_float, h2]⟩
          simp only [convert, Sem.run_bind, run_underlying hd, run_underlying (tflt_u hk), Result.andThen_ok]
          cases d <;> exact h1
      · cases h
    · cases h
  | string s =>
    have ha' := cv_plain ha rfl; subst ha'; rw [ha] at h
    simp only [dconv] at h
    split at h
    · rename_i hh
      injection h with h; subst h
      refine ⟨_, 0, ?_, cv_string _⟩
      simp only [convert, Sem.run_bind, run_underlying (tstr_u hh.1), run_underlying (tstr_u hh.2), Result.andThen_ok]; rfl
    · cases h
  | _ => rw [ha] at h; simp [dconv] at h
end Go.Ab

namespace Go.Ab
def dfieldAddr (P : Program) (t : TypeId) (i : Nat) : Value → Option Value
  | .pointer (some a) => match tfield P t i with
    | some (off, ft) => match tsz P ft with
      | some (_ + 1) => some (.pointer (some (a.add off)))
      | _ => none
    | none => none
  | _ => none
theorem tfield_u {P : Program} {t i off ft : Nat} (h : tfield P t i = some (off, ft)) : ∃ fs f, P.underlying t = some (.struct fs) ∧ fs[i]? = some f ∧ f.offset = off ∧ f.type = ft := by
  unfold tfield at h
  split at h
  · rename_i fs hu
    cases hf : fs[i]? with
    | none => rw [hf] at h; cases h
    | some f => rw [hf] at h; simp only [Option.map_some, Option.some.injEq, Prod.mk.injEq] at h; exact ⟨fs, f, hu, hf, h.1, h.2⟩
  · cases h
theorem dfieldAddr_run {P : Program} (w : World) {t i : Nat} {a v : Value} (h : dfieldAddr P t i (cv a) = some v) : (Instr.fieldAt t a i).run P w = .ok v w ∧ cv v = v := by
  cases ha : cv a with
  | pointer p =>
    have ha' := cv_plain ha rfl; subst ha'; rw [ha] at h
    cases p with
    | none => simp [dfieldAddr] at h
    | some ad =>
      simp only [dfieldAddr] at h
      split at h
      · rename_i off ft hf
        obtain ⟨fs, f, hu, hfs, ho, ht⟩ := tfield_u hf
        split at h
        · rename_i n hs
          injection h with h; subst h
          refine ⟨?_, rfl⟩
          have hsz := tsz_run (w := w) hs
          rw [← ht] at hsz
          simp only [Instr.fieldAt, Sem.run_bind, run_underlying hu, Result.andThen_ok, hfs, Instr.sureAddr, Sem.run_pure, fieldPlace, hsz, Nat.add_one_ne_zero, if_false, ho]
        · cases h
      · cases h
  | _ => rw [ha] at h; simp [dfieldAddr] at h
def dindexAddr (P : Program) (t : TypeId) (x : Value) : Value → Option Value
  | .int _ i => match tslice P t, tarr P t, x with
    | some e, _, .slice (some a) len _ => if 0 ≤ i ∧ i < (len : Int) then (tsz P e).map fun n => .pointer (some (a.add (i.toNat * n))) else none
    | none, some (len, e), .pointer (some a) => if 0 ≤ i ∧ i < (len : Int) then (tsz P e).map fun n => .pointer (some (a.add (i.toNat * n))) else none
    | _, _, _ => none
  | _ => none
theorem dindexAddr_run {P : Program} (w : World) {t : Nat} {x ix v : Value} (h : dindexAddr P t (cv x) (cv ix) = some v) : (Instr.indexAt t x ix).run P w = .ok v w ∧ cv v = v := by
  cases hi : cv ix with
  | int k i =>
    have hi' := cv_plain hi rfl; subst hi'; rw [hi] at h
    simp only [dindexAddr] at h
    split at h
    · rename_i e a len cap hs hx
      have hx' := cv_plain hx rfl; subst hx'
      split at h
      · rename_i hb
        cases hz : tsz P e with
        | none => rw [hz] at h; cases h
        | some n =>
          rw [hz] at h
          simp only [Option.map_some, Option.some.injEq] at h; subst h
          refine ⟨?_, rfl⟩
          simp only [Instr.indexAt, Sem.run_bind, asIntOf, Sem.run_pure, Result.andThen_ok, run_underlying (tslice_u hs), if_pos hb, tsz_run hz]
      · cases h
    · rename_i len e a hs ht hx
      have hx' := cv_plain hx rfl; subst hx'
      split at h
      · rename_i hb
        cases hz : tsz P e with
        | none => rw [hz] at h; cases h
        | some n =>
          rw [hz] at h
          simp only [Option.map_some, Option.some.injEq] at h; subst h
          refine ⟨?_, rfl⟩
          simp only [Instr.indexAt, Sem.run_bind, asIntOf, Instr.sureAddr, Sem.run_pure, Result.andThen_ok, run_underlying (tarr_u ht), if_pos hb, tsz_run hz]
      · cases h
    · cases h
  | _ => rw [hi] at h; simp [dindexAddr] at h
def dpart (P : Program) (t : TypeId) (cs : Array Value) (off : Nat) : Option Value :=
  match tagg P t, tsz P t with
  | some true, some n => some (.agg (cs.extract off (off + n)))
  | some false, _ => (cs[off]?).bind fun x => if oneC x then some x else none
  | _, _ => none
theorem dpart_run {P : Program} (w : World) {t off : Nat} {cs : Array Value} {v : Value} (h : dpart P t (cs.map cv1) off = some v) : ∃ u, (part t cs off).run P w = .ok u w ∧ cv u = v := by
  unfold dpart at h
  split at h
  · rename_i n ha hs
    injection h with h; subst h
    refine ⟨.agg (cs.extract off (off + n)), ?_, by simp [cv, cv2]⟩
    simp only [part, Sem.run_bind, tagg_run ha, Result.andThen_ok, if_true, tsz_run hs, Sem.run_pure]
  · rename_i ha
    cases hc : cs[off]? with
    | none => simp [hc] at h
    | some c =>
      simp only [Array.getElem?_map, hc, Option.map_some, Option.bind_some] at h
      split at h
      · rename_i h1
        injection h with h
        refine ⟨c, ?_, by rw [← h]; exact cv_of_cv1 rfl h1⟩
        simp only [part, Sem.run_bind, tagg_run ha, Result.andThen_ok, Bool.false_eq_true, if_false, hc, Sem.run_pure]
      · cases h
  · cases h
def dfield (P : Program) (t : TypeId) (i : Nat) : Value → Option Value
  | .agg cs => match tfield P t i with
    | some (off, ft) => dpart P ft cs off
    | none => none
  | _ => none
theorem dfield_run {P : Program} (w : World) {t i : Nat} {a v : Value} (h : dfield P t i (cv a) = some v) : ∃ u, (Instr.field t a i).run P w = .ok u w ∧ cv u = v := by
  cases ha : cv a with
  | agg l =>
    obtain ⟨cs, rfl, hl⟩ := cv_isagg ha
    rw [ha] at h
    simp only [dfield] at h
    split at h
    · rename_i off ft hf
      obtain ⟨fs, f, hu, hfs, ho, ht⟩ := tfield_u hf
      rw [← hl] at h
      obtain ⟨u, h1, h2⟩ := dpart_run (P := P) w h
      refine ⟨u, ?_, h2⟩
      simp only [Instr.field, Sem.run_bind, run_underlying hu, Result.andThen_ok, hfs, asAgg, Sem.run_pure, ho, ht, h1]
    · cases h
  | _ => rw [ha] at h; simp [dfield] at h
def dindex (P : Program) (t : TypeId) (x : Value) : Value → Option Value
  | .int _ i => match tstr P t, tarr P t, x with
    | true, _, .string s => if 0 ≤ i then (s[i.toNat]?).map fun b => .int .u8 b.toNat else none
    | false, some (len, e), .agg cs => if 0 ≤ i ∧ i < (len : Int) then (tsz P e).bind fun n => dpart P e cs (i.toNat * n) else none
    | _, _, _ => none
  | _ => none
theorem dindex_run {P : Program} (w : World) {t : Nat} {x ix v : Value} (h : dindex P t (cv x) (cv ix) = some v) : ∃ u, (Instr.index t x ix).run P w = .ok u w ∧ cv u = v := by
  cases hi : cv ix with
  | int k i =>
    have hi' := cv_plain hi rfl; subst hi'; rw [hi] at h
    simp only [dindex] at h
    split at h
    · rename_i s hs hx
      have hx' := cv_plain hx rfl; subst hx'
      split at h
      · rename_i hb
        cases hc : s[i.toNat]? with
        | none => rw [hc] at h; cases h
        | some b =>
          rw [hc] at h
          simp only [Option.map_some, Option.some.injEq] at h; subst h
          refine ⟨_, ?_, cv_int _ _⟩
          simp only [Instr.index, Sem.run_bind, asIntOf, Sem.run_pure, Result.andThen_ok, run_underlying (tstr_u hs), if_pos hb, hc]
      · cases h
    · rename_i len e cs hs ht hx
      obtain ⟨cs', rfl, hl⟩ := cv_isagg hx
      split at h
      · rename_i hb
        cases hz : tsz P e with
        | none => rw [hz] at h; cases h
        | some n =>
          rw [hz] at h
          simp only [Option.bind_some] at h
          rw [← hl] at h
          obtain ⟨u, h1, h2⟩ := dpart_run (P := P) w h
          refine ⟨u, ?_, h2⟩
          simp only [Instr.index, Sem.run_bind, asIntOf, Sem.run_pure, Result.andThen_ok, run_underlying (tarr_u ht), if_pos hb, tsz_run hz, h1]
      · cases h
    · cases h
  | _ => rw [hi] at h; simp [dindex] at h
def dextract (i : Nat) : Value → Option Value
  | .tuple vs => (vs[i]?).bind fun v => match v with | .tuple _ => none | v => some v
  | _ => none
theorem dextract_run {P : Program} (w : World) {i : Nat} {a v : Value} (h : dextract i (cv a) = some v) : ∃ u, (Instr.extract a i).run P w = .ok u w ∧ cv u = v := by
  cases ha : cv a with
  | tuple l =>
    obtain ⟨cs, rfl, hl⟩ := cv_istuple ha
    rw [ha] at h
    simp only [dextract, ← hl, Array.getElem?_map] at h
    cases hc : cs[i]? with
    | none => rw [hc] at h; cases h
    | some c =>
      rw [hc] at h
      simp only [Option.map_some, Option.bind_some] at h
      refine ⟨c, by simp [Instr.extract, hc], ?_⟩
      cases c <;> simp [cv2, cv1] at h <;> subst h <;> simp [cv, cv2, cv1]
  | _ => rw [ha] at h; simp [dextract] at h

/-! ### Slices of strings, slices and arrays -/
def dhi (n cap : Nat) : Option Value → Option Nat
  | none => some n
  | some (.int _ i) => if 0 ≤ i ∧ i ≤ (cap : Int) then some i.toNat else none
  | _ => none
def dlo (h : Nat) : Option Value → Option Nat
  | none => some 0
  | some (.int _ i) => if 0 ≤ i ∧ i ≤ (h : Int) then some i.toNat else none
  | _ => none
def dslice (P : Program) (t : TypeId) (lo hi : Option Value) : Value → Option Value
  | .string s => if tstr P t then (dhi s.size s.size hi).bind fun h => (dlo h lo).map fun l => .string (s.extract l h) else none
  | .slice a n c => match tslice P t with
    | some e => (tsz P e).bind fun z => (dhi n c hi).bind fun h => (dlo h lo).map fun l => .slice (if c = l then a else a.map (·.add (l * z))) (h - l) (c - l)
    | none => none
  | .pointer (some a) => match tarr P t with
    | some (n, e) => (tsz P e).bind fun z => (dhi n n hi).bind fun h => (dlo h lo).map fun l => .slice (some (if n = l then a else a.add (l * z))) (h - l) (n - l)
    | none => none
  | _ => none
theorem dbounds_run {P : Program} (w : World) {b : Bool} {n c h l : Nat} {lo hi : Option Value} (h1 : dhi n c (hi.map cv) = some h) (h2 : dlo h (lo.map cv) = some l) : (Instr.sliceBounds b n c lo hi none).run P w = .ok (l, h, c) w := by
  have e1 : (match hi with | some v => Instr.sliceBound v c (if b then .sliceAcap else .sliceAlen) | none => pure n : Sem Nat).run P w = .ok h w := by
    cases hi with
    | none => simp only [Option.map_none, dhi, Option.some.injEq] at h1; subst h1; rfl
    | some v =>
      simp only [Option.map_some] at h1
      cases hv : cv v with
      | int k i =>
        have := cv_plain hv rfl; subst this; rw [hv] at h1
        simp only [dhi] at h1
        split at h1
        · rename_i hb; injection h1 with h1; subst h1; simp only [Instr.sliceBound, asIntOf, Sem.run_bind, Sem.run_pure, Result.andThen_ok, if_pos hb]
        · cases h1
      | _ => rw [hv] at h1; simp [dhi] at h1
  have e2 : (match lo with | some v => Instr.sliceBound v h (if (none : Option Value).isSome then .slice3C else .sliceB) | none => pure 0 : Sem Nat).run P w = .ok l w := by
    cases lo with
    | none => simp only [Option.map_none, dlo, Option.some.injEq] at h2; subst h2; rfl
    | some v =>
      simp only [Option.map_some] at h2
      cases hv : cv v with
      | int k i =>
        have := cv_plain hv rfl; subst this; rw [hv] at h2
        simp only [dlo] at h2
        split at h2
        · rename_i hb; injection h2 with h2; subst h2; simp only [Instr.sliceBound, asIntOf, Sem.run_bind, Sem.run_pure, Result.andThen_ok, if_pos hb]
        · cases h2
      | _ => rw [hv] at h2; simp [dlo] at h2
  unfold Instr.sliceBounds
  cases hi with
  | none =>
    simp only [Sem.run_bind, Sem.run_pure, Result.andThen_ok] at e1 ⊢
    injection e1 with e1 _
    subst e1
    cases lo with
    | none => simp only [Sem.run_pure] at e2 ⊢; injection e2 with e2 _; subst e2; rfl
    | some v => dsimp only at e2 ⊢; simp only [Sem.run_bind, e2, Result.andThen_ok, Sem.run_pure]
  | some v0 =>
    dsimp only at e1 ⊢
    simp only [Sem.run_bind, Sem.run_pure, Result.andThen_ok, e1]
    cases lo with
    | none => simp only [Sem.run_pure] at e2 ⊢; injection e2 with e2 _; subst e2; rfl
    | some v => dsimp only at e2 ⊢; simp only [Sem.run_bind, e2, Result.andThen_ok, Sem.run_pure]
theorem dslice_run {P : Program} (w : World) {t : Nat} {x v : Value} {lo hi : Option Value} (h : dslice P t (lo.map cv) (hi.map cv) (cv x) = some v) : (Instr.sliceAt t x lo hi none).run P w = .ok v w ∧ cv v = v := by
  cases hx : cv x with
  | string s =>
    have hx' := cv_plain hx rfl; subst hx'; rw [hx] at h
    simp only [dslice] at h
    split at h
    · rename_i hs
      cases h1 : dhi s.size s.size (hi.map cv) with
      | none => rw [h1] at h; cases h
      | some hh =>
        rw [h1] at h
        simp only [Option.bind_some] at h
        cases h2 : dlo hh (lo.map cv) with
        | none => rw [h2] at h; cases h
        | some l =>
          rw [h2] at h
          simp only [Option.map_some, Option.some.injEq] at h; subst h
          refine ⟨?_, rfl⟩
          have hb := dbounds_run (P := P) w (b := false) h1 h2
          simp only [Instr.sliceAt, Sem.run_bind, run_underlying (tstr_u hs), Result.andThen_ok, Instr.slice, Option.isSome_none, Bool.false_eq_true, if_false, hb, Sem.run_pure]
    · cases h
  | slice a n c =>
    have hx' := cv_plain hx rfl; subst hx'; rw [hx] at h
    simp only [dslice] at h
    split at h
    · rename_i e hs
      cases hz : tsz P e with
      | none => rw [hz] at h; cases h
      | some z =>
        rw [hz] at h
        simp only [Option.bind_some] at h
        cases h1 : dhi n c (hi.map cv) with
        | none => rw [h1] at h; cases h
        | some hh =>
          rw [h1] at h
          simp only [Option.bind_some] at h
          cases h2 : dlo hh (lo.map cv) with
          | none => rw [h2] at h; cases h
          | some l =>
            rw [h2] at h
            simp only [Option.map_some, Option.some.injEq] at h; subst h
            refine ⟨?_, rfl⟩
            have hb := dbounds_run (P := P) w (b := true) h1 h2
            simp only [Instr.sliceAt, Sem.run_bind, run_underlying (tslice_u hs), Result.andThen_ok, Instr.slice, hb, tsz_run hz, Sem.run_pure]
    · cases h
  | pointer p =>
    have hx' := cv_plain hx rfl; subst hx'; rw [hx] at h
    cases p with
    | none => simp [dslice] at h
    | some a =>
      simp only [dslice] at h
      split at h
      · rename_i n e hs
        cases hz : tsz P e with
        | none => rw [hz] at h; cases h
        | some z =>
          rw [hz] at h
          simp only [Option.bind_some] at h
          cases h1 : dhi n n (hi.map cv) with
          | none => rw [h1] at h; cases h
          | some hh =>
            rw [h1] at h
            simp only [Option.bind_some] at h
            cases h2 : dlo hh (lo.map cv) with
            | none => rw [h2] at h; cases h
            | some l =>
              rw [h2] at h
              simp only [Option.map_some, Option.some.injEq] at h; subst h
              refine ⟨?_, rfl⟩
              have hb := dbounds_run (P := P) w (b := false) h1 h2
              simp only [Instr.sliceAt, Sem.run_bind, run_underlying (tarr_u hs), Result.andThen_ok, Instr.sureAddr, hb, tsz_run hz, Sem.run_pure]
      · cases h
  | _ => rw [hx] at h; simp [dslice] at h

/-! ### Structs and arrays put together -/
def setRange (l : List Value) (off : Nat) (xs : List Value) : List Value := l.take off ++ xs ++ l.drop (off + xs.length)
def vcells : Value → List Value
  | .agg cs => cs.toList
  | v => [v]
def dfill (place : Nat → Option (Nat × Nat)) (cells : List Value) : List (Nat × Value) → Option (List Value)
  | [] => some cells
  | (i, v) :: rest => match place i with
    | none => none
    | some (off, size) => if (vcells v).length = size ∧ off + size ≤ cells.length then dfill place (setRange cells off (vcells v)) rest else none
theorem vcells_eq (v : Value) : v.cells.toList = vcells v := by cases v <;> rfl
theorem vcells_cv (v : Value) (h : ∀ l, v ≠ .tuple l) : vcells (cv v) = (vcells v).map cv1 := by
  cases v <;> simp [vcells, cv, cv2, cv1]
  exact absurd rfl (h _)
theorem foldl_set (off : Nat) : ∀ (xs : List Value) (j : Nat) (cs : Array Value), off + j + xs.length ≤ cs.size →
    ((xs.zipIdx j).foldl (fun cs (c, j) => cs.setIfInBounds (off + j) c) cs).toList = cs.toList.take (off + j) ++ xs ++ cs.toList.drop (off + j + xs.length)
  | [], j, cs, _ => by simp
  | x :: xs, j, cs, h => by
    simp only [List.length_cons] at h
    simp only [List.zipIdx_cons, List.foldl_cons]
    rw [foldl_set off xs (j + 1) (cs.setIfInBounds (off + j) x) (by simp; omega)]
    simp only [Array.toList_setIfInBounds, List.length_cons]
    have hlt : off + j < cs.toList.length := by simp; omega
    rw [show off + (j + 1) = off + j + 1 by omega]
    have hs : cs.toList.set (off + j) x = cs.toList.take (off + j) ++ x :: cs.toList.drop (off + j + 1) := by rw [List.set_eq_take_append_cons_drop, if_pos hlt]
    have hl : (cs.toList.take (off + j)).length = off + j := by rw [List.length_take]; omega
    have e1 : (cs.toList.take (off + j)).take (off + j + 1) = cs.toList.take (off + j) := List.take_of_length_le (by omega)
    have e2 : (cs.toList.take (off + j)).drop (off + j + 1 + xs.length) = [] := List.drop_eq_nil_of_le (by omega)
    rw [hs, List.take_append, List.drop_append, hl, e1, e2]
    rw [show off + j + 1 - (off + j) = 1 by omega, show off + j + 1 + xs.length - (off + j) = xs.length + 1 by omega]
    simp only [List.take_succ_cons, List.take_zero, List.drop_succ_cons, List.drop_drop, List.append_assoc, List.cons_append, List.nil_append]
    rw [show off + j + 1 + xs.length = off + j + (xs.length + 1) by omega]
theorem fill_run (place : Nat → Option (Nat × Nat)) : ∀ (ps : List (Nat × Value)) (cs : Array Value) (l : List Value), (∀ p ∈ ps, ∀ u, p.2 ≠ .tuple u) →
    dfill place (cs.toList.map cv1) (ps.map fun p => (p.1, cv p.2)) = some l → ∃ cs', Instr.fill place cs ps = some cs' ∧ cs'.toList.map cv1 = l ∧ cs'.size = cs.size
  | [], cs, l, _, h => by
    simp only [List.map_nil, dfill, Option.some.injEq] at h
    exact ⟨cs, rfl, h, rfl⟩
  | (i, v) :: ps, cs, l, ht, h => by
    simp only [List.map_cons, dfill] at h
    unfold Instr.fill
    split at h
    · cases h
    · rename_i off size hp
      rw [hp]
      dsimp only
      have hvt : ∀ u, v ≠ .tuple u := ht (i, v) (List.mem_cons_self ..)
      rw [vcells_cv v hvt] at h
      have hsz : v.cells.size = (vcells v).length := by rw [← vcells_eq]; simp
      split at h
      · rename_i hc
        simp only [List.length_map, Array.length_toList] at hc
        have hcond : (v.cells.size ≠ size || off + v.cells.size > cs.size) = false := by
          rw [hsz, hc.1]; simp; omega
        rw [hcond]
        simp only [Bool.false_eq_true, if_false]
        have hfold : (v.cells.zipIdx.foldl (fun cs (c, j) => cs.setIfInBounds (off + j) c) cs).toList = setRange cs.toList off (vcells v) := by
          rw [← Array.foldl_toList, Array.toList_zipIdx, vcells_eq]
          have := foldl_set off (vcells v) 0 cs (by rw [hc.1]; omega)
          simpa [setRange] using this
        generalize v.cells.zipIdx.foldl (fun cs (c, j) => cs.setIfInBounds (off + j) c) cs = F at hfold ⊢
        obtain ⟨cs', h1, h2, h3⟩ := fill_run place ps F l (fun p hp => ht p (List.mem_cons_of_mem _ hp)) (by
          rw [hfold]
          simp only [setRange, List.map_append, List.map_take, List.map_drop, List.length_map] at h ⊢
          exact h)
        refine ⟨cs', h1, h2, ?_⟩
        rw [h3]
        have := congrArg List.length hfold
        simp only [Array.length_toList, setRange, List.length_append, List.length_take, List.length_drop] at this
        omega
      · cases h
/-- What the fields of a literal are, none of them a list of results. -/
def noTuple : Value → Bool
  | .tuple _ => false
  | _ => true
def tplaces (P : Program) (t : TypeId) : Option (List (Nat × Nat)) :=
  match P.underlying t with
  | some (.struct fs) => fs.toList.mapM fun f => (P.info? f.type).map fun i => (f.offset, i.size)
  | some (.array k e) => (tsz P e).map fun n => (List.range k).map fun i => (i * n, n)
  | _ => none
def dbuild (P : Program) (t : TypeId) (parts : List (Nat × Value)) : Option Value :=
  match tzero P t, tplaces P t with
  | some z, some ps => if parts.all (fun p => noTuple p.2) && noTuple z then (dfill (fun i => ps[i]?) (vcells (cv z)) parts).map fun l => .agg l.toArray else none
  | _, _ => none
theorem tzero_run {P : Program} {w : World} {t : TypeId} {z : Value} (h : tzero P t = some z) : (zeroValue t).run P w = .ok z w := by
  unfold tzero at h
  cases hi : P.info? t with
  | none => rw [hi] at h; cases h
  | some i => rw [hi] at h; simp only [Option.bind_some] at h; simp [zeroValue, typeInfo, hi, h]
theorem noTuple_ne {v : Value} (h : noTuple v = true) : ∀ u, v ≠ .tuple u := by intro u e; subst e; cases h
theorem noTuple_cv {v : Value} (h : noTuple (cv v) = true) : ∀ u, v ≠ .tuple u := by intro u e; subst e; cases h
theorem fill_mono {p q : Nat → Option (Nat × Nat)} (h : ∀ i x, p i = some x → q i = some x) : ∀ (ps : List (Nat × Value)) (cs r : Array Value), Instr.fill p cs ps = some r → Instr.fill q cs ps = some r
  | [], _, _, e => e
  | (i, v) :: ps, cs, r, e => by
    unfold Instr.fill at e ⊢
    cases hp : p i with
    | none => rw [hp] at e; cases e
    | some x =>
      obtain ⟨off, size⟩ := x
      rw [hp] at e
      rw [h i _ hp]
      dsimp only at e ⊢
      split at e
      · cases e
      · rename_i hc; rw [if_neg hc]; exact fill_mono h ps _ r e
theorem dbuild_run {P : Program} (w : World) {t : Nat} {parts : List (Nat × Value)} {v : Value} (h : dbuild P t (parts.map fun p => (p.1, cv p.2)) = some v) : ∃ u, (Instr.build t parts.toArray).run P w = .ok u w ∧ cv u = v := by
  unfold dbuild at h
  split at h
  · rename_i z ps hz hp
    split at h
    · rename_i hc
      simp only [Bool.and_eq_true, List.all_eq_true] at hc
      obtain ⟨hc1, hc2⟩ := hc
      have htup : ∀ p ∈ parts, ∀ u, p.2 ≠ .tuple u := fun p hp => noTuple_cv (hc1 (p.1, cv p.2) (List.mem_map.2 ⟨p, hp, rfl⟩))
      cases hd : dfill (fun i => ps[i]?) (vcells (cv z)) (parts.map fun p => (p.1, cv p.2)) with
      | none => rw [hd] at h; cases h
      | some l =>
        rw [hd] at h
        simp only [Option.map_some, Option.some.injEq] at h; subst h
        rw [vcells_cv z (noTuple_ne hc2), ← vcells_eq] at hd
        obtain ⟨cs, h1, h2, _⟩ := fill_run _ parts z.cells l htup hd
        refine ⟨.agg cs, ?_, by rw [← h2]; show Value.agg (cs.map cv1) = _; congr 1; apply Array.ext'; simp⟩
        unfold tplaces at hp
        split at hp
        · rename_i fs hu
          have hfun : (fun i : Nat => ps.toArray[i]?) = fun i => ps[i]? := by funext i; simp
          simp only [Instr.build, Sem.run_bind, tzero_run hz, run_underlying hu, Result.andThen_ok, bind_pure_comp, Array.mapM_eq_mapM_toList, Sem.run_map, run_places w fs.toList ps hp]
          rw [hfun, h1]
          rfl
        · rename_i k e hu
          cases hs : tsz P e with
          | none => rw [hs] at hp; cases hp
          | some n =>
            rw [hs] at hp
            simp only [Option.map_some, Option.some.injEq] at hp
            have h1' := fill_mono (q := fun i => some (i * n, n)) (fun i x hx => by
              rw [← hp] at hx
              simp only [List.getElem?_map] at hx
              by_cases hi : i < k
              · rw [List.getElem?_range hi] at hx; simpa using hx
              · rw [List.getElem?_eq_none (by simp; omega)] at hx; cases hx) parts z.cells cs h1
            simp only [Instr.build, Sem.run_bind, tzero_run hz, run_underlying hu, Result.andThen_ok, tsz_run hs]
            rw [h1']
            rfl
        · cases hp
    · cases h
  · cases h

/-! ### Lengths, least and greatest -/
def dlen (P : Program) (H : AH) (t : TypeId) : Value → Option Value
  | .string s => if tstr P t then some (.int .i64 s.size) else none
  | .slice _ n _ => if (tslice P t).isSome then some (.int .i64 n) else none
  | .map (some r) => if (tmap P t).isSome then (match H r with | some (.map es _) => some (.int .i64 es.length) | _ => none) else none
  | _ => none
theorem HR.map {H : AH} {w : World} (h : HR H w) {b : Nat} {es : List MapEntry} {c : Nat} (hb : H b = some (.map es c)) : ∃ ces : Array MapEntry, w.heap[b]? = some (.map ces c) ∧ ces.toList.map cvE = es := by
  obtain ⟨o, ho, hR⟩ := h b _ hb
  cases o with
  | map ces c' => obtain ⟨rfl, h2⟩ := hR; exact ⟨ces, ho, h2⟩
  | _ => exact hR.elim
theorem dlen_run {P : Program} {H : AH} {w : World} (hr : HR H w) {t ty : Nat} {a v : Value} (h : dlen P H t (cv a) = some v) : (Builtin.len_ #[t] ty #[a]).run P w = .ok v w ∧ cv v = v := by
  cases ha : cv a with
  | string s =>
    have ha' := cv_plain ha rfl; subst ha'; rw [ha] at h
    simp only [dlen] at h
    split at h
    · rename_i hs; injection h with h; subst h
      exact ⟨by simp [Builtin.len_, run_underlying (tstr_u hs), goInt], rfl⟩
    · cases h
  | slice p n c =>
    have ha' := cv_plain ha rfl; subst ha'; rw [ha] at h
    simp only [dlen] at h
    split at h
    · rename_i hs; injection h with h; subst h
      obtain ⟨e, he⟩ := Option.isSome_iff_exists.1 hs
      exact ⟨by simp [Builtin.len_, run_underlying (tslice_u he), goInt], rfl⟩
    · cases h
  | map p =>
    have ha' := cv_plain ha rfl; subst ha'; rw [ha] at h
    cases p with
    | none => simp [dlen] at h
    | some r =>
      simp only [dlen] at h
      split at h
      · rename_i hs
        obtain ⟨⟨k, e⟩, he⟩ := Option.isSome_iff_exists.1 hs
        split at h
        · rename_i es c hb
          injection h with h; subst h
          obtain ⟨ces, h1, h2⟩ := hr.map hb
          refine ⟨?_, rfl⟩
          have hl : es.length = ces.size := by rw [← h2]; simp
          simp [Builtin.len_, run_underlying (tmap_u he), goInt, getObj, Sem.run, h1, hl]
        · cases h
      · cases h
  | _ => rw [ha] at h; simp [dlen] at h
def fmax (k : FloatKind) (x y : Nat) : Nat :=
  match k.format.order x y with
  | none => cnan k
  | some .lt => y
  | some .gt => x
  | some .eq => if (k.decode x).neg then y else x
def fmin (k : FloatKind) (x y : Nat) : Nat :=
  match k.format.order x y with
  | none => cnan k
  | some .lt => x
  | some .gt => y
  | some .eq => if (k.decode x).neg then x else y
def dmax : List Value → Option Value
  | [.int k x, .int _ y] => some (.int k (if y > x then y else x))
  | [.float k x, .float k' y] => if k = k' then some (.float k (fmax k x y)) else none
  | _ => none
def dmin : List Value → Option Value
  | [.int k x, .int _ y] => some (.int k (if y < x then y else x))
  | [.float k x, .float k' y] => if k = k' then some (.float k (fmin k x y)) else none
  | _ => none
theorem order_nan_l (s : Bool) (f : Nat) (d : Ieee.Datum) : (Ieee.Datum.nan s f).order d = none := by cases d <;> rfl
theorem order_nan_r (s : Bool) (f : Nat) (d : Ieee.Datum) : d.order (Ieee.Datum.nan s f) = none := by cases d <;> rfl
theorem order_some_notNaN {k : FloatKind} {x y : Nat} {o : Ordering} (h : k.format.order x y = some o) : isN k x = false ∧ isN k y = false := by
  unfold Ieee.Format.order at h
  constructor
  · cases hx : isN k x with
    | false => rfl
    | true => obtain ⟨s, f, hr⟩ := read_nan hx; rw [hr, order_nan_l] at h; cases h
  · cases hy : isN k y with
    | false => rfl
    | true => obtain ⟨s, f, hr⟩ := read_nan hy; rw [hr, order_nan_r] at h; cases h
theorem max2_run {P : Program} (w : World) (k : FloatKind) (x y : Nat) : ∃ u n, (Builtin.max2 (.float k x) (.float k y)).run P w = .ok (.float k u) (w.drewN n) ∧ cn k u = fmax k (cn k x) (cn k y) := by
  unfold fmax
  rw [order_cn]
  simp only [Builtin.max2]
  cases h : k.format.order x y with
  | none =>
    obtain ⟨u, hu, hc⟩ := run_choose_nan (P := P) (w := w) k (.nanMinMax k true x y) (.inr (.inr ⟨true, x, y, rfl⟩))
    exact ⟨u, 1, by simp only [Sem.run_bind, hu, Result.andThen_ok, Sem.run_pure], hc⟩
  | some o =>
    obtain ⟨hx, hy⟩ := order_some_notNaN h
    rw [cn_of_not hx, cn_of_not hy]
    cases o with
    | lt => exact ⟨y, 0, rfl, cn_of_not hy⟩
    | gt => exact ⟨x, 0, rfl, cn_of_not hx⟩
    | eq => exact ⟨if (k.decode x).neg then y else x, 0, rfl, by dsimp only; split <;> first | exact cn_of_not hy | exact cn_of_not hx⟩
theorem min2_run {P : Program} (w : World) (k : FloatKind) (x y : Nat) : ∃ u n, (Builtin.min2 (.float k x) (.float k y)).run P w = .ok (.float k u) (w.drewN n) ∧ cn k u = fmin k (cn k x) (cn k y) := by
  unfold fmin
  rw [order_cn]
  simp only [Builtin.min2]
  cases h : k.format.order x y with
  | none =>
    obtain ⟨u, hu, hc⟩ := run_choose_nan (P := P) (w := w) k (.nanMinMax k false x y) (.inr (.inr ⟨false, x, y, rfl⟩))
    exact ⟨u, 1, by simp only [Sem.run_bind, hu, Result.andThen_ok, Sem.run_pure], hc⟩
  | some o =>
    obtain ⟨hx, hy⟩ := order_some_notNaN h
    rw [cn_of_not hx, cn_of_not hy]
    cases o with
    | lt => exact ⟨x, 0, rfl, cn_of_not hx⟩
    | gt => exact ⟨y, 0, rfl, cn_of_not hy⟩
    | eq => exact ⟨if (k.decode x).neg then x else y, 0, rfl, by dsimp only; split <;> first | exact cn_of_not hy | exact cn_of_not hx⟩
theorem dmax_run {P : Program} (w : World) (ts : Array TypeId) (ty : TypeId) {args : List Value} {v : Value} (h : dmax (args.map cv) = some v) : ∃ u n, (Builtin.max_ ts ty args.toArray).run P w = .ok u (w.drewN n) ∧ cv u = v := by
  match args, h with
  | [a, b], h =>
    simp only [List.map_cons, List.map_nil] at h
    cases ha : cv a with
    | int k x =>
      have := cv_plain ha rfl; subst this
      cases hb : cv b with
      | int k' y =>
        have := cv_plain hb rfl; subst this
        rw [ha, hb] at h; simp only [dmax, Option.some.injEq] at h; subst h
        exact ⟨_, 0, rfl, cv_int _ _⟩
      | _ => rw [ha, hb] at h; simp [dmax] at h
    | float k x =>
      obtain ⟨x', rfl, hx⟩ := cv_isfloat ha
      cases hb : cv b with
      | float k' y =>
        obtain ⟨y', rfl, hy⟩ := cv_isfloat hb
        rw [ha, hb] at h; simp only [dmax] at h
        split at h
        · rename_i hk; subst hk
          injection h with h; subst h
          obtain ⟨u, n, h1, h2⟩ := max2_run (P := P) w k x' y'
          refine ⟨.float k u, n, ?_, by rw [cv_float, h2, hx, hy]⟩
          simp only [Builtin.max_, List.foldlM_cons, List.foldlM_nil, Sem.run_bind, h1, Result.andThen_ok, Sem.run_pure]
        · cases h
      | _ => rw [ha, hb] at h; simp [dmax] at h
    | _ => rw [ha] at h; cases cv b <;> simp [dmax] at h
  | [], h => simp [dmax] at h
  | [a], h => simp [dmax] at h
  | a :: b :: c :: r, h => simp [dmax] at h
theorem dmin_run {P : Program} (w : World) (ts : Array TypeId) (ty : TypeId) {args : List Value} {v : Value} (h : dmin (args.map cv) = some v) : ∃ u n, (Builtin.min_ ts ty args.toArray).run P w = .ok u (w.drewN n) ∧ cv u = v := by
  match args, h with
  | [a, b], h =>
    simp only [List.map_cons, List.map_nil] at h
    cases ha : cv a with
    | int k x =>
      have := cv_plain ha rfl; subst this
      cases hb : cv b with
      | int k' y =>
        have := cv_plain hb rfl; subst this
        rw [ha, hb] at h; simp only [dmin, Option.some.injEq] at h; subst h
        exact ⟨_, 0, rfl, cv_int _ _⟩
      | _ => rw [ha, hb] at h; simp [dmin] at h
    | float k x =>
      obtain ⟨x', rfl, hx⟩ := cv_isfloat ha
      cases hb : cv b with
      | float k' y =>
        obtain ⟨y', rfl, hy⟩ := cv_isfloat hb
        rw [ha, hb] at h; simp only [dmin] at h
        split at h
        · rename_i hk; subst hk
          injection h with h; subst h
          obtain ⟨u, n, h1, h2⟩ := min2_run (P := P) w k x' y'
          refine ⟨.float k u, n, ?_, by rw [cv_float, h2, hx, hy]⟩
          simp only [Builtin.min_, List.foldlM_cons, List.foldlM_nil, Sem.run_bind, h1, Result.andThen_ok, Sem.run_pure]
        · cases h
      | _ => rw [ha, hb] at h; simp [dmin] at h
    | _ => rw [ha] at h; cases cv b <;> simp [dmin] at h
  | [], h => simp [dmin] at h
  | [a], h => simp [dmin] at h
  | a :: b :: c :: r, h => simp [dmin] at h
end Go.Ab

namespace Go.Ab
def allPlain (l : List Value) : Bool := l.all plain
def dval (P : Program) (o : Op) (env : Env) (H : AH) : Option Value :=
  match o with
  | .move x | .assign x => some (env.ev x)
  | .pick c a b => match env.ev c with
    | .bool t => some (if t then env.ev a else env.ev b)
    | _ => none
  | .load t x => match env.ev x with
    | .pointer (some a) => dload P H t a
    | _ => none
  | .nilCheck x => match env.ev x with
    | .pointer (some a) => some (.pointer (some a))
    | _ => none
  | .binOp op t x y _ => dbin P op t (env.ev x) (env.ev y)
  | .unOp op _ x => dun op (env.ev x)
  | .convert s d x => dconv P s d (env.ev x)
  | .fieldAddr t x i => dfieldAddr P t i (env.ev x)
  | .field t x i => dfield P t i (env.ev x)
  | .indexAddr t x i => dindexAddr P t (env.ev x) (env.ev i)
  | .index t x i => dindex P t (env.ev x) (env.ev i)
  | .extract x i => dextract i (env.ev x)
  | .slice t x lo hi none => dslice P t (lo.map env.ev) (hi.map env.ev) (env.ev x)
  | .build t parts => dbuild P t (parts.toList.map fun p => (p.1, env.ev p.2))
  | .makeFunc fn first captured => if allPlain (first.toList.map env.ev) && allPlain (captured.toList.map env.ev) then some (.func fn (first.map env.ev) (captured.map env.ev)) else none
  | .call c => match c.callee with
    | .builtin .len => match c.args.toList, c.argTypes.toList with
      | [x], [t] => dlen P H t (env.ev x)
      | _, _ => none
    | .builtin .max => dmax (c.args.toList.map env.ev)
    | .builtin .min => dmin (c.args.toList.map env.ev)
    | _ => none
  | _ => none
/-- The operation leaves a value that is seen as 'v', whatever the bits of not-a-numbers, and the memory. -/
def ADet (P : Program) (o : Oper) (env : Env) (H : AH) (v : Value) : Prop :=
  ∀ (ρ : Operand → Value) (w : World), (∀ x, cv (ρ x) = env.ev x) → HR H w → ∃ u n, (execOp ρ o).run P w = .ok (.value u) (w.drewN n) ∧ cv u = v
theorem wrapV {P : Program} {w w' : World} {s : Sem Value} {u : Value} (h : s.run P w = .ok u w') : (do pure (Next.value (← s)) : Sem Next).run P w = .ok (.value u) w' := by
  simp only [Sem.run_bind, h, Result.andThen_ok, Sem.run_pure]
theorem map_eq_of_plain (ρ : Operand → Value) (f : Operand → Value) (h : ∀ x, cv (ρ x) = f x) : ∀ (l : List Operand), allPlain (l.map f) = true → l.map ρ = l.map f
  | [], _ => rfl
  | x :: l, hp => by
    simp only [allPlain, List.map_cons, List.all_cons, Bool.and_eq_true] at hp
    simp only [List.map_cons]
    rw [cv_plain (h x) hp.1, map_eq_of_plain ρ f h l hp.2]
theorem dval_det {P : Program} {o : Oper} {env : Env} {H : AH} {v : Value} (h : dval P o.op env H = some v) : ADet P o env H v := by
  intro ρ w hρ hr
  unfold dval at h
  unfold execOp
  cases hop : o.op with
  | move x => rw [hop] at h; simp only [Option.some.injEq] at h; exact ⟨ρ x, 0, rfl, by rw [hρ, h]⟩
  | assign x => rw [hop] at h; simp only [Option.some.injEq] at h; exact ⟨ρ x, 0, rfl, by rw [hρ, h]⟩
  | pick c a b =>
    rw [hop] at h; dsimp only at h ⊢
    split at h
    · rename_i t hc
      injection h with h
      have hc' := cv_plain ((hρ c).trans hc) rfl
      refine ⟨if t then ρ a else ρ b, 0, ?_, by cases t <;> simp [hρ] at h ⊢ <;> exact h⟩
      rw [hc']; cases t <;> rfl
    · cases h
  | load t x =>
    rw [hop] at h; dsimp only at h ⊢
    split at h
    · rename_i a ha
      obtain ⟨c, h1, h2⟩ := dload_run (P := P) hr h
      have ha' := cv_plain ((hρ x).trans ha) rfl
      refine ⟨c, 0, wrapV ?_, h2⟩
      rw [ha']; simp only [Instr.loadAt, Instr.sureAddr, Sem.run_bind, Sem.run_pure, Result.andThen_ok, h1]; rfl
    · cases h
  | nilCheck x =>
    rw [hop] at h; dsimp only at h ⊢
    split at h
    · rename_i a ha
      injection h with h; subst h
      have ha' := cv_plain ((hρ x).trans ha) rfl
      exact ⟨_, 0, by rw [ha']; rfl, cv_pointer _⟩
    · cases h
  | binOp op t x y z =>
    rw [hop] at h; dsimp only at h ⊢
    rw [← hρ x, ← hρ y] at h
    obtain ⟨u, n, h1, h2⟩ := dbin_run (P := P) w t x y h
    exact ⟨u, n, wrapV h1, h2⟩
  | unOp op t x =>
    rw [hop] at h; dsimp only at h ⊢
    rw [← hρ x] at h
    obtain ⟨u, h1, h2⟩ := dun_run (P := P) w h
    exact ⟨u, 0, wrapV h1, h2⟩
  | convert s d x =>
    rw [hop] at h; dsimp only at h ⊢
    rw [← hρ x] at h
    obtain ⟨u, n, h1, h2⟩ := dconv_run (P := P) w h
    exact ⟨u, n, wrapV h1, h2⟩
  | fieldAddr t x i =>
    rw [hop] at h; dsimp only at h ⊢
    rw [← hρ x] at h
    obtain ⟨h1, h2⟩ := dfieldAddr_run (P := P) w h
    exact ⟨v, 0, wrapV h1, h2⟩
  | field t x i =>
    rw [hop] at h; dsimp only at h ⊢
    rw [← hρ x] at h
    obtain ⟨u, h1, h2⟩ := dfield_run (P := P) w h
    exact ⟨u, 0, wrapV h1, h2⟩
  | indexAddr t x i =>
    rw [hop] at h; dsimp only at h ⊢
    rw [← hρ x, ← hρ i] at h
    obtain ⟨h1, h2⟩ := dindexAddr_run (P := P) w h
    exact ⟨v, 0, wrapV h1, h2⟩
  | index t x i =>
    rw [hop] at h; dsimp only at h ⊢
    rw [← hρ x, ← hρ i] at h
    obtain ⟨u, h1, h2⟩ := dindex_run (P := P) w h
    exact ⟨u, 0, wrapV h1, h2⟩
  | extract x i =>
    rw [hop] at h; dsimp only at h ⊢
    rw [← hρ x] at h
    obtain ⟨u, h1, h2⟩ := dextract_run (P := P) w h
    exact ⟨u, 0, wrapV h1, h2⟩
  | slice t x lo hi mx =>
    rw [hop] at h; dsimp only at h ⊢
    cases mx with
    | some m => cases h
    | none =>
      dsimp only at h
      have e1 : lo.map env.ev = (lo.map ρ).map cv := by cases lo <;> simp [hρ]
      have e2 : hi.map env.ev = (hi.map ρ).map cv := by cases hi <;> simp [hρ]
      rw [e1, e2, ← hρ x] at h
      obtain ⟨h1, h2⟩ := dslice_run (P := P) w h
      exact ⟨v, 0, wrapV h1, h2⟩
  | build t parts =>
    rw [hop] at h; dsimp only at h ⊢
    have e1 : (parts.toList.map fun p => (p.1, env.ev p.2)) = (parts.toList.map fun p => (p.1, ρ p.2)).map fun p => (p.1, cv p.2) := by simp [hρ]
    rw [e1] at h
    obtain ⟨u, h1, h2⟩ := dbuild_run (P := P) w h
    refine ⟨u, 0, wrapV ?_, h2⟩
    have e2 : (parts.map fun (i, x) => (i, ρ x)) = (parts.toList.map fun p => (p.1, ρ p.2)).toArray := by apply Array.ext'; simp
    rw [e2]; exact h1
  | makeFunc fn first captured =>
    rw [hop] at h; dsimp only at h ⊢
    split at h
    · rename_i hp
      simp only [Bool.and_eq_true] at hp
      injection h with h
      have e1 : first.map ρ = first.map env.ev := by apply Array.ext'; simpa using map_eq_of_plain ρ env.ev hρ first.toList hp.1
      have e2 : captured.map ρ = captured.map env.ev := by apply Array.ext'; simpa using map_eq_of_plain ρ env.ev hρ captured.toList hp.2
      rw [e1, e2, ← h]
      exact ⟨_, 0, wrapV rfl, cv_func _ _ _⟩
    · cases h
  | call c =>
    rw [hop] at h; dsimp only at h ⊢
    split at h
    · rename_i hc
      split at h
      · rename_i x t hx ht
        rw [← hρ x] at h
        obtain ⟨h1, h2⟩ := dlen_run (P := P) (ty := o.type) hr h
        refine ⟨v, 0, ?_, h2⟩
        have ea : c.args.map ρ = #[ρ x] := by apply Array.ext'; simp [hx]
        have et : c.argTypes = #[t] := by apply Array.ext'; simp [ht]
        simp only [resolve, hc, invoke, builtin, Sem.run_bind, Sem.run_pure, Result.andThen_ok, ea, et, h1]; rfl
      · cases h
    · rename_i hc
      have ea : c.args.map ρ = (c.args.toList.map ρ).toArray := by apply Array.ext'; simp
      have e1 : c.args.toList.map env.ev = (c.args.toList.map ρ).map cv := by simp [hρ]
      rw [e1] at h
      obtain ⟨u, n, h1, h2⟩ := dmax_run (P := P) w c.argTypes o.type h
      refine ⟨u, n, ?_, h2⟩
      simp only [resolve, hc, invoke, builtin, Sem.run_bind, Sem.run_pure, Result.andThen_ok, ea, h1]
    · rename_i hc
      have ea : c.args.map ρ = (c.args.toList.map ρ).toArray := by apply Array.ext'; simp
      have e1 : c.args.toList.map env.ev = (c.args.toList.map ρ).map cv := by simp [hρ]
      rw [e1] at h
      obtain ⟨u, n, h1, h2⟩ := dmin_run (P := P) w c.argTypes o.type h
      refine ⟨u, n, ?_, h2⟩
      simp only [resolve, hc, invoke, builtin, Sem.run_bind, Sem.run_pure, Result.andThen_ok, ea, h1]
    · cases h
  | _ => rw [hop] at h; cases h
theorem AOp_det {P : Program} {N : Nat} {o : Oper} {env : Env} {H : AH} {K : Env → AH → Prop} {v : Value} (hd : ∀ d, o.dst = some d → d < N) (h : ADet P o env H v) (hk : K (put env o.dst v) H) : AOp P N o env H K := by
  intro a w r
  obtain ⟨u, n, h1, h2⟩ := h a.eval w (fun x => by rw [← ev_envOf, r.env]) r.hr
  unfold Oper.wp
  rw [h1]
  have r2 := r.put hd u; rw [h2] at r2; exact ⟨_, H, hk, ⟨r2.env, r2.size, r2.defers, r2.hr⟩, L.drewN H w n⟩
end Go.Ab

namespace Go.Ab
theorem HR_new {H : AH} {w : World} (h : HR H w) (cs : Array Value) (e : TypeId) : HR (upd H w.heap.size (some (.cells (cs.toList.map cv1) e true cs.size))) (w.alloc (.cells cs e)) := by
  intro b blk hb
  unfold upd at hb
  split at hb
  · rename_i heq
    subst heq
    injection hb with hb; subst hb
    refine ⟨_, heap_alloc_new w _, rfl, rfl, by simp, fun i hi => ?_, fun _ => rfl⟩
    simp
  · obtain ⟨o, ho, hR⟩ := h b blk hb
    exact ⟨o, by rw [heap_alloc_old w _ (Array.getElem?_eq_some_iff.1 ho).1]; exact ho, hR⟩
theorem L_new {H : AH} {w : World} (h : HR H w) (o : Obj) (blk : Blk) : L H w (upd H w.heap.size (some blk)) (w.alloc o) :=
  ⟨rfl, rfl, rfl, by simp, Nat.le_refl _, fun b hb hn => ⟨heap_alloc_old w o hb, by rw [upd_ne _ _ (by omega)]; exact hn⟩,
    fun b l e r hb => ⟨heap_alloc_old w o (h.lt hb), upd_ne _ _ (by have := h.lt hb; omega)⟩⟩
theorem HR_newMap {H : AH} {w : World} (h : HR H w) : HR (upd H w.heap.size (some (.map [] 0))) (w.alloc (.map #[] 0)) := by
  intro b blk hb
  unfold upd at hb
  split at hb
  · rename_i heq
    subst heq
    injection hb with hb; subst hb
    exact ⟨_, heap_alloc_new w _, rfl, rfl⟩
  · obtain ⟨o, ho, hR⟩ := h b blk hb
    exact ⟨o, by rw [heap_alloc_old w _ (Array.getElem?_eq_some_iff.1 ho).1]; exact ho, hR⟩
/-- An operation that makes a block. -/
def ANew (P : Program) (o : Oper) (env : Env) (H : AH) (blk : Blk) (v : Nat → Value) : Prop :=
  ∀ (ρ : Operand → Value) (w : World), (∀ x, cv (ρ x) = env.ev x) → HR H w → ∃ u ob, (execOp ρ o).run P w = .ok (.value u) (w.alloc ob) ∧ cv u = v w.heap.size ∧ HR (upd H w.heap.size (some blk)) (w.alloc ob)
theorem AOp_new {P : Program} {N : Nat} {o : Oper} {env : Env} {H : AH} {K : Env → AH → Prop} {blk : Blk} {v : Nat → Value} (hd : ∀ d, o.dst = some d → d < N) (h : ANew P o env H blk v)
    (hk : ∀ b, H b = none → K (put env o.dst (v b)) (upd H b (some blk))) : AOp P N o env H K := by
  intro a w r
  obtain ⟨u, ob, h1, h2, h3⟩ := h a.eval w (fun x => by rw [← ev_envOf, r.env]) r.hr
  unfold Oper.wp
  rw [h1]
  have r2 := r.put hd u
  rw [h2] at r2
  exact ⟨_, _, hk _ (r.hr.fresh (Nat.le_refl _)), ⟨r2.env, r2.size, r2.defers, h3⟩, L_new r.hr ob blk⟩
def ptr (b : Nat) : Value := .pointer (some ⟨b, 0, none⟩)
/-- The cells of a type's zero. -/
def tzc (P : Program) (t : TypeId) : Option (List Value) := (tzero P t).map fun z => (vcells z).map cv1
theorem ANew_alloc {P : Program} {o : Oper} {env : Env} {H : AH} {t : TypeId} {zs : List Value} (ho : o.op = .alloc t) (hz : tzc P t = some zs) : ANew P o env H (.cells zs t true zs.length) ptr := by
  intro ρ w _ hr
  unfold tzc at hz
  cases hz' : tzero P t with
  | none => rw [hz'] at hz; cases hz
  | some z =>
    rw [hz'] at hz
    simp only [Option.map_some, Option.some.injEq] at hz
    have hn := HR_new hr z.cells t
    rw [vcells_eq, hz] at hn
    have hl : z.cells.size = zs.length := by rw [← hz, List.length_map, ← vcells_eq]; simp
    rw [hl] at hn
    refine ⟨ptr w.heap.size, .cells z.cells t, ?_, rfl, hn⟩
    unfold execOp
    rw [ho]
    dsimp only
    exact wrapV (by simp only [Instr.alloc, Sem.run_bind, tzero_run hz', Result.andThen_ok, newVar, newRow, run_newObj_alloc, Sem.run_pure]; rfl)
theorem ANew_box {P : Program} {o : Oper} {env : Env} {H : AH} {t : TypeId} {x : Operand} (ho : o.op = .box t x) (hx : noTuple (env.ev x) = true) : ANew P o env H (.cells (vcells (env.ev x)) t true (vcells (env.ev x)).length) ptr := by
  intro ρ w hρ hr
  have hn := HR_new hr (ρ x).cells t
  have ht : ∀ u, ρ x ≠ .tuple u := noTuple_cv (by rw [hρ]; exact hx)
  have hc : (ρ x).cells.toList.map cv1 = vcells (env.ev x) := by rw [vcells_eq, ← hρ, vcells_cv _ ht]
  have hl : (ρ x).cells.size = (vcells (env.ev x)).length := by rw [← hc]; simp
  rw [hc, hl] at hn
  refine ⟨ptr w.heap.size, .cells (ρ x).cells t, ?_, rfl, hn⟩
  unfold execOp
  rw [ho]
  dsimp only
  exact wrapV (by simp only [Instr.box, newVar, newRow, Sem.run_bind, run_newObj_alloc, Result.andThen_ok, Sem.run_pure]; rfl)
theorem ANew_makeMap {P : Program} {o : Oper} {env : Env} {H : AH} {t : TypeId} (ho : o.op = .makeMap t none) : ANew P o env H (.map [] 0) (fun b => .map (some b)) := by
  intro ρ w _ hr
  refine ⟨.map (some w.heap.size), .map #[] 0, ?_, rfl, HR_newMap hr⟩
  unfold execOp
  rw [ho]
  exact wrapV rfl
/-- A literal '[]T{..}', each element given. -/
theorem fill_complete (size : Nat) : ∀ (vs : List Value) (k : Nat) (cs : Array Value), (∀ v ∈ vs, (vcells v).length = size) → cs.size = (k + vs.length) * size →
    ∃ cs', Instr.fill (fun i => some (i * size, size)) cs ((vs.zipIdx k).map fun p => (p.2, p.1)) = some cs' ∧ cs'.toList = cs.toList.take (k * size) ++ vs.flatMap vcells
  | [], k, cs, _, hs => ⟨cs, rfl, by rw [List.take_of_length_le]; simp; simp at hs; simp [hs]⟩
  | v :: vs, k, cs, hv, hs => by
    have h0 := hv v (List.mem_cons_self ..)
    have hsz : v.cells.size = size := by rw [← h0, ← vcells_eq]; simp
    simp only [List.length_cons] at hs
    have hle : k * size + size ≤ cs.size := by
      rw [hs, show k + (vs.length + 1) = (k + 1) + vs.length by omega, Nat.add_mul (k + 1), Nat.succ_mul]; omega
    simp only [List.zipIdx_cons, List.map_cons, Instr.fill]
    have hcond : (v.cells.size ≠ size || k * size + v.cells.size > cs.size) = false := by rw [hsz]; simp; omega
    rw [hcond]
    simp only [Bool.false_eq_true, if_false]
    have hfold : (v.cells.zipIdx.foldl (fun cs (c, j) => cs.setIfInBounds (k * size + j) c) cs).toList = setRange cs.toList (k * size) (vcells v) := by
      rw [← Array.foldl_toList, Array.toList_zipIdx, vcells_eq]
      have := foldl_set (k * size) (vcells v) 0 cs (by rw [h0]; omega)
      simpa [setRange] using this
    generalize v.cells.zipIdx.foldl (fun cs (c, j) => cs.setIfInBounds (k * size + j) c) cs = F at hfold ⊢
    have hF : F.size = cs.size := by
      have := congrArg List.length hfold
      simp only [Array.length_toList, setRange, List.length_append, List.length_take, List.length_drop, h0] at this
      omega
    obtain ⟨cs', h1, h2⟩ := fill_complete size vs (k + 1) F (fun u hu => hv u (List.mem_cons_of_mem _ hu)) (by rw [hF, hs]; congr 1; omega)
    refine ⟨cs', h1, ?_⟩
    rw [h2, hfold]
    have hl : (cs.toList.take (k * size) ++ vcells v).length = (k + 1) * size := by rw [List.length_append, List.length_take, h0, Nat.succ_mul]; simp; omega
    rw [setRange, List.take_append_of_le_length (by omega), List.take_of_length_le (by omega), List.flatMap_cons, List.append_assoc]
theorem flatMap_cv : ∀ (vs : List Value), (∀ v ∈ vs, ∀ u, v ≠ .tuple u) → (vs.map cv).flatMap vcells = (vs.flatMap vcells).map cv1
  | [], _ => rfl
  | v :: vs, h => by
    simp only [List.map_cons, List.flatMap_cons, List.map_append]
    rw [vcells_cv v (h v (List.mem_cons_self ..)), flatMap_cv vs fun u hu => h u (List.mem_cons_of_mem _ hu)]
theorem zipIdx_parts {α : Type} : ∀ (ps : List (Nat × α)) (k : Nat), ps.map (·.1) = List.range' k ps.length → ps = ((ps.map (·.2)).zipIdx k).map fun p => (p.2, p.1)
  | [], _, _ => rfl
  | (i, x) :: ps, k, h => by
    simp only [List.map_cons, List.length_cons, List.range'_succ, List.cons.injEq] at h
    simp only [List.map_cons, List.zipIdx_cons, List.map_cons]
    rw [← zipIdx_parts ps (k + 1) h.2, h.1]
theorem ANew_buildSlice {P : Program} {o : Oper} {env : Env} {H : AH} {t e n z : Nat} {parts : Array (Nat × Operand)} (ho : o.op = .buildSlice t n parts) (ht : tslice P t = some e) (hz : tsz P e = some z)
    (hzz : (tzero P e).isSome = true) (hp : parts.toList.map (·.1) = List.range' 0 parts.toList.length) (hn : parts.toList.length = n) (hbig : n * z ≤ 16777216)
    (hv : (parts.toList.map fun p => env.ev p.2).all (fun v => noTuple v && decide ((vcells v).length = z)) = true) :
    ANew P o env H (.cells ((parts.toList.map fun p => env.ev p.2).flatMap vcells) e true (n * z)) (fun b => .slice (some ⟨b, 0, none⟩) n n) := by
  intro ρ w hρ hr
  let vs : List Value := parts.toList.map fun p => ρ p.2
  have hvs : vs.map cv = parts.toList.map fun p => env.ev p.2 := by simp [vs, hρ]
  rw [← hvs, List.all_eq_true] at hv
  have htup : ∀ v ∈ vs, ∀ u, v ≠ .tuple u := fun v hm => by
    have := hv (cv v) (List.mem_map.2 ⟨v, hm, rfl⟩)
    simp only [Bool.and_eq_true] at this
    exact noTuple_cv this.1
  have hlen : ∀ v ∈ vs, (vcells v).length = z := fun v hm => by
    have := hv (cv v) (List.mem_map.2 ⟨v, hm, rfl⟩)
    simp only [Bool.and_eq_true, decide_eq_true_eq] at this
    rw [vcells_cv v (htup v hm), List.length_map] at this
    exact this.2
  obtain ⟨zv, hzv⟩ := Option.isSome_iff_exists.1 hzz
  have hvl : vs.length = n := by simp [vs] at hn ⊢; exact hn
  have key : ∀ zero : Array Value, ∃ cs', Instr.fill (fun i => some (i * z, z)) ((Array.range (n * z)).map (zero[· % zero.size]!)) (parts.map fun (i, x) => (i, ρ x)).toList = some cs' ∧ cs'.toList = vs.flatMap vcells := by
    intro zero
    obtain ⟨cs', h1, h2⟩ := fill_complete z vs 0 ((Array.range (n * z)).map (zero[· % zero.size]!)) hlen (by simp [hvl])
    refine ⟨cs', ?_, by rw [h2]; simp⟩
    rw [← h1]
    congr 1
    have e1 : (parts.map fun (i, x) => (i, ρ x)).toList = parts.toList.map fun p => (p.1, ρ p.2) := by simp
    rw [e1]
    have := zipIdx_parts (parts.toList.map fun p => (p.1, ρ p.2)) 0 (by rw [List.map_map, List.length_map]; exact hp)
    rw [this, List.map_map]
    rfl
  have fin : ∀ cs' : Array Value, cs'.toList = vs.flatMap vcells → HR (upd H w.heap.size (some (.cells ((parts.toList.map fun p => env.ev p.2).flatMap vcells) e true (n * z)))) (w.alloc (.cells cs' e)) := fun cs' h2 => by
    have hn' := HR_new hr cs' e
    rw [h2, ← flatMap_cv vs htup, hvs] at hn'
    have hs : cs'.size = n * z := by
      have : cs'.toList.length = (vs.flatMap vcells).length := by rw [h2]
      rw [Array.length_toList] at this
      rw [this, ← hvl]
      have gen : ∀ l : List Value, (∀ v ∈ l, (vcells v).length = z) → (l.flatMap vcells).length = l.length * z := by
        intro l
        induction l with
        | nil => simp
        | cons a l ih => intro hh; rw [List.flatMap_cons, List.length_append, hh a (List.mem_cons_self ..), ih fun v hv => hh v (List.mem_cons_of_mem _ hv), List.length_cons, Nat.succ_mul]; omega
      exact gen vs hlen
    rw [hs] at hn'
    exact hn'
  have hb : ¬ (n * z > 2 ^ 24) := by omega
  by_cases h0 : n * z = 0
  · obtain ⟨cs', h1, h2⟩ := key #[]
    refine ⟨.slice (some ⟨w.heap.size, 0, none⟩) n n, .cells cs' e, ?_, rfl, fin cs' h2⟩
    unfold execOp
    rw [ho]
    dsimp only
    refine wrapV ?_
    simp only [Instr.buildSlice, Sem.run_bind, run_underlying (tslice_u ht), Result.andThen_ok, tsz_run hz, if_neg hb, if_pos h0, Sem.run_pure]
    rw [h1]
    simp only [newRow, Sem.run_bind, run_newObj_alloc, Result.andThen_ok, Sem.run_pure]
  · obtain ⟨cs', h1, h2⟩ := key zv.cells
    refine ⟨.slice (some ⟨w.heap.size, 0, none⟩) n n, .cells cs' e, ?_, rfl, fin cs' h2⟩
    unfold execOp
    rw [ho]
    dsimp only
    refine wrapV ?_
    simp only [Instr.buildSlice, Sem.run_bind, run_underlying (tslice_u ht), Result.andThen_ok, tsz_run hz, if_neg hb, if_neg h0, tzero_run hzv, Sem.run_pure]
    rw [h1]
    simp only [newRow, Sem.run_bind, run_newObj_alloc, Result.andThen_ok, Sem.run_pure]
theorem made_flat (zc : Array Value) (z : Nat) (hz : zc.size = z) : ∀ n, (madeCells zc (n * z)).toList.map cv1 = (List.replicate n (zc.toList.map cv1)).flatten
  | 0 => by simp [madeCells]
  | n + 1 => by
    have ih := made_flat zc z hz n
    simp only [madeCells, Array.toList_map, Array.toList_range, List.map_map] at ih ⊢
    rw [Nat.succ_mul, List.range_add, List.map_append, ih, List.replicate_succ', List.flatten_append]
    congr 1
    simp only [List.map_map, List.flatten_cons, List.flatten_nil, List.append_nil]
    apply List.ext_getElem?
    intro j
    simp only [List.getElem?_map]
    by_cases hj : j < z
    · rw [List.getElem?_range hj]
      have h1 : (n * z + j) % zc.size = j := by rw [hz, Nat.mul_comm, Nat.mul_add_mod]; exact Nat.mod_eq_of_lt hj
      simp only [Option.map_some, Function.comp_apply, h1]
      rw [getElem!_pos zc j (by omega)]
      simp [Array.getElem?_eq_getElem (show j < zc.size by omega)]
    · rw [List.getElem?_eq_none (by simp; omega), List.getElem?_eq_none (by simp; omega)]; rfl
def tbytes (P : Program) (t : TypeId) : Option Nat := (P.info? t).map (·.bytes)
/-- 'make([]T, n)'. -/
theorem ANew_makeSlice {P : Program} {o : Oper} {env : Env} {H : AH} {t e z nb : Nat} {x y : Operand} {k k' : IntKind} {n : Nat} {zs : List Value} (ho : o.op = .makeSlice t x y) (ht : tslice P t = some e) (hz : tsz P e = some z) (hzc : tzc P e = some zs) (hzl : zs.length = z)
    (hby : tbytes P e = some nb) (hx : env.ev x = .int k (n : Int)) (hy : env.ev y = .int k' (n : Int)) (hb : nb * n ≤ 281474976710656) (hn : n ≤ 9223372036854775807) :
    ANew P o env H (.cells (List.replicate n zs).flatten e true (n * z)) (fun b => .slice (some ⟨b, 0, none⟩) n n) := by
  intro ρ w hρ hr
  have hx' := cv_plain ((hρ x).trans hx) rfl
  have hy' := cv_plain ((hρ y).trans hy) rfl
  unfold tzc at hzc
  unfold tbytes at hby
  unfold tsz at hz
  cases hi : P.info? e with
  | none => rw [hi] at hz; cases hz
  | some i =>
    rw [hi] at hz hby
    simp only [Option.map_some, Option.some.injEq] at hz hby
    cases hz' : tzero P e with
    | none => rw [hz'] at hzc; cases hzc
    | some zv =>
      rw [hz'] at hzc
      simp only [Option.map_some, Option.some.injEq] at hzc
      have hiz : i.zero = some zv := by unfold tzero at hz'; rw [hi] at hz'; exact hz'
      have hb2 : (i.bytes : Int) * (n : Int) ≤ 281474976710656 := by
        have h' : ((nb * n : Nat) : Int) ≤ 281474976710656 := by omega
        rw [hby, ← Int.natCast_mul]; exact h'
      have hr1 := run_make (P := P) w t e i zv (tslice_u ht) hi hiz k k' (n : Int) (n : Int) (by omega) (by omega) hb2 (by omega)
      simp only [Int.toNat_natCast, hz] at hr1
      have hn' := HR_new hr (madeCells zv.cells (n * z)) e
      have hlz : zv.cells.size = z := by rw [← hzl, ← hzc, List.length_map, ← vcells_eq]; simp
      have hcells : (madeCells zv.cells (n * z)).toList.map cv1 = (List.replicate n zs).flatten := by
        rw [← hzc, ← vcells_eq]
        exact made_flat zv.cells z hlz n
      have hs : (madeCells zv.cells (n * z)).size = n * z := by simp [madeCells]
      rw [hcells, hs] at hn'
      refine ⟨.slice (some ⟨w.heap.size, 0, none⟩) n n, _, ?_, rfl, hn'⟩
      unfold execOp
      rw [ho]
      dsimp only
      exact wrapV (by rw [hx', hy']; exact hr1)
/-! ### Stores -/
theorem oneC_cell {c : Value} (h : oneC (cv1 c) = true) : c.oneCell' = true := by cases c <;> simp_all [cv1, oneC, Value.oneCell']
theorem HR_row {H : AH} {w : World} (h : HR H w) {g : Nat} {cs : Array Value} {e : TypeId} {l : List Value} {room : Nat} {cur : Array Value} {l0 : List Value}
    (hg : w.heap[g]? = some (.cells cur e (0, 0))) (_hH : H g = some (.cells l0 e true room)) (hs : cs.size = room) (hl : l.length ≤ room) (hc : ∀ i, i < l.length → (cs[i]?).map cv1 = l[i]?) :
    HR (upd H g (some (.cells l e true room))) (w.setRow g cs) := by
  intro b blk hb
  unfold upd at hb
  split at hb
  · rename_i heq; subst heq
    injection hb with hb; subst hb
    exact ⟨_, setRow_heap w b cur cs e _ hg, rfl, hs, hl, hc, fun _ => rfl⟩
  · rename_i hne
    obtain ⟨o, ho, hR⟩ := h b blk hb
    exact ⟨o, by rw [setRow_other w g b _ hne]; exact ho, hR⟩
theorem L_row {H : AH} {w : World} {g : Nat} {e : TypeId} {l l0 : List Value} {room : Nat} (hH : H g = some (.cells l0 e true room)) (cs : Array Value) : L H w (upd H g (some (.cells l e true room))) (w.setRow g cs) :=
  ⟨rfl, rfl, rfl, by simp, Nat.le_refl _, fun b _ hn => by
      have hne : b ≠ g := fun e => by rw [e, hH] at hn; cases hn
      exact ⟨setRow_other w g b _ hne, by rw [upd_ne _ _ hne]; exact hn⟩,
    fun b l' e' r hb => by
      have hne : b ≠ g := fun e => by rw [e, hH] at hb; cases hb
      exact ⟨setRow_other w g b _ hne, upd_ne _ _ hne⟩⟩
theorem HR.own {H : AH} {w : World} (h : HR H w) {g : Nat} {e : TypeId} {l : List Value} {room : Nat} (hH : H g = some (.cells l e true room)) :
    ∃ cur : Array Value, w.heap[g]? = some (.cells cur e (0, 0)) ∧ cur.size = room ∧ l.length ≤ room ∧ (∀ i, i < l.length → (cur[i]?).map cv1 = l[i]?) := by
  obtain ⟨o, ho, hR⟩ := h g _ hH
  cases o with
  | cells cs e' frz => obtain ⟨rfl, h1, h2, h3, h4⟩ := hR; exact ⟨cs, by rw [ho, h4 rfl], h1, h2, h3⟩
  | _ => exact hR.elim
theorem get3 {α : Type} (A B C : List α) (i : Nat) : (A ++ B ++ C)[i]? = if i < A.length then A[i]? else if i < A.length + B.length then B[i - A.length]? else C[i - (A.length + B.length)]? := by
  by_cases h : i < A.length
  · rw [if_pos h, List.append_assoc, List.getElem?_append_left h]
  · rw [if_neg h]
    by_cases h2 : i < A.length + B.length
    · rw [if_pos h2, List.append_assoc, List.getElem?_append_right (by omega), List.getElem?_append_left (by omega)]
    · rw [if_neg h2, List.getElem?_append_right (by rw [List.length_append]; omega), List.length_append]
theorem AOp_store {P : Program} {N : Nat} {o : Oper} {env : Env} {H : AH} {K : Env → AH → Prop} {t e g off n : Nat} {x y : Operand} {l : List Value} {room : Nat} (ho : o.op = .store t x y) (hdst : o.dst = none)
    (hx : env.ev x = .pointer (some ⟨g, off, none⟩)) (hz : tsz P t = some n) (hH : H g = some (.cells l e true room)) (hfit : off + n ≤ l.length)
    (hv : (noTuple (env.ev y) && decide ((vcells (env.ev y)).length = n) && (vcells (env.ev y)).all oneC) = true)
    (hk : K env (upd H g (some (.cells (setRange l off (vcells (env.ev y))) e true room)))) : AOp P N o env H K := by
  intro a w r
  have hρ : ∀ z, cv (a.eval z) = env.ev z := fun z => by rw [← ev_envOf, r.env]
  have hx' := cv_plain ((hρ x).trans hx) rfl
  simp only [Bool.and_eq_true, decide_eq_true_eq] at hv
  obtain ⟨⟨hv1, hv2⟩, hv3⟩ := hv
  have htup : ∀ u, a.eval y ≠ .tuple u := noTuple_cv (by rw [hρ]; exact hv1)
  have hc : (vcells (a.eval y)).map cv1 = vcells (env.ev y) := by rw [← hρ, vcells_cv _ htup]
  have hlen : (vcells (a.eval y)).length = n := by rw [← hv2, ← hc, List.length_map]
  obtain ⟨cur, hg, hs, hl, hcur⟩ := r.hr.own hH
  have h1 : ∀ v ∈ vcells (a.eval y), v.oneCell' = true := fun v hm => oneC_cell (List.all_eq_true.1 hv3 (cv1 v) (by rw [← hc]; exact List.mem_map.2 ⟨v, hm, rfl⟩))
  have hst := run_storeCells_at P g off e (vcells (a.eval y)) 0 cur w hg (by omega) h1
  have hrun : (execOp a.eval o).run P w = .ok .skip (w.setRow g (cur.toList.take (off + 0) ++ vcells (a.eval y) ++ cur.toList.drop (off + 0 + (vcells (a.eval y)).length)).toArray) := by
    have hsz : (a.eval y).cells.size = n := by rw [← hlen, ← vcells_eq]; simp
    have hst' : (storeCells ⟨g, off, none⟩ (a.eval y).cells.toList).run P w = .ok () (w.setRow g (cur.toList.take (off + 0) ++ vcells (a.eval y) ++ cur.toList.drop (off + 0 + (vcells (a.eval y)).length)).toArray) := by rw [vcells_eq]; exact hst
    unfold execOp
    rw [ho]
    simp only [Instr.storeAt, Instr.sureAddr, hx', storeVar, Sem.run_bind, Sem.run_pure, Result.andThen_ok, tsz_run hz, hsz, ne_eq, not_true, if_false, hst']
  unfold Oper.wp
  rw [hrun]
  simp only [Oper.upon, hdst, Act.put]
  refine ⟨env, _, hk, ⟨r.env, r.size, r.defers, ?_⟩, L_row hH _⟩
  have hlr : (setRange l off (vcells (env.ev y))).length = l.length := by simp only [setRange, List.length_append, List.length_take, List.length_drop, hv2]; omega
  refine HR_row r.hr hg hH ?_ (by rw [hlr]; exact hl) ?_
  · simp only [List.size_toArray, List.length_append, List.length_take, List.length_drop, Array.length_toList, hlen]; omega
  · intro i hi
    rw [hlr] at hi
    simp only [List.getElem?_toArray, Nat.add_zero, hlen, setRange, hv2]
    have hL : l.length ≤ cur.toList.length := by simp; omega
    have ht1 : (cur.toList.take off).length = off := by rw [List.length_take]; simp; omega
    have ht2 : (l.take off).length = off := by rw [List.length_take]; omega
    have hci : ∀ j, j < l.length → (cur.toList[j]?).map cv1 = l[j]? := fun j hj => by have := hcur j hj; simpa using this
    rw [get3, get3, ht1, ht2, hlen, hv2]
    by_cases h2 : i < off
    · rw [if_pos h2, if_pos h2, List.getElem?_take_of_lt h2, List.getElem?_take_of_lt h2]
      exact hci i hi
    · rw [if_neg h2, if_neg h2]
      by_cases h3 : i < off + n
      · rw [if_pos h3, if_pos h3, ← hc, List.getElem?_map]
      · rw [if_neg h3, if_neg h3, List.getElem?_drop, List.getElem?_drop, show off + n + (i - (off + n)) = i by omega]
        exact hci i hi

/-! ### A row of one's own; append -/
/-- The slice 'v' of n elements (of type e, 'size' cells each) owns the cells l. -/
def OwnL (H : AH) (v : Value) (e size n : Nat) (l : List Value) : Prop :=
  l.length = n * size ∧ ((v = .slice none 0 0 ∧ n = 0) ∨ ∃ b cap, v = .slice (some ⟨b, 0, none⟩) n cap ∧ H b = some (.cells l e true (cap * size)) ∧ n ≤ cap ∧ cap ≤ maxLen)
def blockOf : Value → Option Nat
  | .slice (some a) _ _ => some a.block
  | _ => none
theorem AOp_append {P : Program} {N : Nat} {o : Oper} {env : Env} {H : AH} {K : Env → AH → Prop} {t e size bytes n m c : Nat} {s x : Operand} {sv : Value} {l news : List Value} {ad : Addr} (hd : ∀ d, o.dst = some d → d < N)
    (ho : o.op = .call { callee := .builtin .append, args := #[s, x], argTypes := #[t, t] }) (ht : tslice P t = some e) (hz : tsz P e = some size) (hzz : (tzc P e).map (·.length) = some size) (hb : tbytes P e = some bytes) (_hpos : 0 < size)
    (hs : env.ev s = sv) (hown : OwnL H sv e size n l) (hx : env.ev x = .slice (some ad) m c) (hnews : rdN H ad (m * size) = some news) (hone : news.all oneC = true)
    (h63 : n + m ≤ 9223372036854775807) (hbytes : (n + m) * bytes ≤ 140737488355328)
    (hk : ∀ s' H', OwnL H' s' e size (n + m) (l ++ news) → (∀ b, some b ≠ blockOf sv → some b ≠ blockOf s' → H' b = H b) → (∀ b, blockOf s' = some b → some b = blockOf sv ∨ H b = none) → (s' = .slice none 0 0 ↔ sv = .slice none 0 0 ∧ m = 0) → K (put env o.dst s') H') : AOp P N o env H K := by
  intro a w r
  have hρ : ∀ z, cv (a.eval z) = env.ev z := fun z => by rw [← ev_envOf, r.env]
  have hsl : ∃ p q q', sv = .slice p q q' := by
    rcases hown.2 with ⟨h, _⟩ | ⟨b, cap, h, _⟩ <;> exact ⟨_, _, _, h⟩
  obtain ⟨p, q, q', hsv⟩ := hsl
  have hs' : a.eval s = sv := cv_plain ((hρ s).trans hs) (by rw [hsv]; rfl)
  have hx' : a.eval x = .slice (some ad) m c := cv_plain ((hρ x).trans hx) rfl
  obtain ⟨cs, _, hcs2, hcs3, hcs4⟩ := rdN_run (P := P) r.hr hnews
  unfold tsz at hz
  unfold tbytes at hb
  cases hi : P.info? e with
  | none => rw [hi] at hz; cases hz
  | some i =>
    rw [hi] at hz hb
    simp only [Option.map_some, Option.some.injEq] at hz hb
    unfold tzc at hzz
    cases hz' : tzero P e with
    | none => rw [hz'] at hzz; cases hzz
    | some zv =>
      rw [hz'] at hzz
      simp only [Option.map_some, Option.some.injEq, List.length_map] at hzz
      have hiz : i.zero = some zv := by unfold tzero at hz'; rw [hi] at hz'; exact hz'
      have hzs : zv.cells.size = size := by rw [← hzz, ← vcells_eq]; simp
      have h1 : ∀ v ∈ cs, v.oneCell' = true := fun v hm => oneC_cell (List.all_eq_true.1 hone (cv1 v) (by rw [← hcs2]; exact List.mem_map.2 ⟨v, hm, rfl⟩))
      have hsmall : n + m ≤ maxLen := by unfold maxLen; omega
      have hlm : news.length = m * size := by rw [← hcs2, List.length_map, hcs3]
      -- behind a growth
      have grow : ∀ (cap' : Nat) (ns : Array Value), n + m ≤ cap' → cap' ≤ maxLen → ns.size = cap' * size → (ns.toList.take ((n + m) * size)).map cv1 = l ++ news → (m = 0 → sv ≠ .slice none 0 0) →
          (execOp a.eval o).run P w = .ok (.value (.slice (some ⟨w.heap.size, 0, none⟩) (n + m) cap')) (w.drew.alloc (.cells ns e)) → o.wp P a w (To N H w K) (fun _ _ _ => False) := by
        intro cap' ns h1 h2 h3 h4 h5 hrun
        unfold Oper.wp
        rw [hrun]
        have hfr : H w.heap.size = none := r.hr.fresh (Nat.le_refl _)
        let H' : AH := upd H w.heap.size (some (.cells (l ++ news) e true (cap' * size)))
        have hHR : HR H' (w.drew.alloc (.cells ns e)) := by
          intro b blk hb'
          simp only [H', upd] at hb'
          split at hb'
          · rename_i heq; subst heq
            injection hb' with hb'; subst hb'
            refine ⟨_, heap_alloc_new w.drew _, rfl, h3, ?_, fun j hj => ?_, fun _ => rfl⟩
            · rw [← h4, List.length_map, List.length_take]; exact Nat.le_trans (Nat.min_le_left _ _) (Nat.mul_le_mul_right _ h1)
            · have hj' := hj
              rw [← h4, List.length_map, List.length_take] at hj'
              rw [← h4, List.getElem?_map, List.getElem?_take, if_pos (by omega)]; simp
          · obtain ⟨ob, hob, hR⟩ := r.hr b blk hb'
            exact ⟨ob, by rw [heap_alloc_old w.drew _ (r.hr.lt hb')]; exact hob, hR⟩
        have rel := r.put hd (.slice (some ⟨w.heap.size, 0, none⟩) (n + m) cap')
        rw [cv_slice] at rel
        have hlen : (l ++ news).length = (n + m) * size := by rw [List.length_append, hown.1, hlm, Nat.add_mul]
        refine ⟨_, H', hk _ H' ⟨hlen, .inr ⟨w.heap.size, cap', rfl, upd_same _ _ _, h1, h2⟩⟩ (fun b _ hb2 => upd_ne _ _ (fun e => hb2 (by rw [e]; rfl))) (fun b hb' => .inr (by injection hb' with hb'; rw [← hb']; exact hfr)) ⟨fun h => (by cases h), fun ⟨h, h'⟩ => absurd h (h5 h')⟩, ⟨rel.env, rel.size, rel.defers, hHR⟩, ?_⟩
        have l1 := L_new (o := .cells ns e) (HR.drewN r.hr 1) (.cells (l ++ news) e true (cap' * size))
        exact (L.drewN H w 1).trans l1
      have hcap : ∀ old, n + m ≤ grownCap w (n + m) old e ∧ grownCap w (n + m) old e ≤ maxLen := fun old => ⟨grownCap_ge w _ _ _, grownCap_le_maxLen w _ _ _ hsmall⟩
      have hexec : ∀ {v w'}, (Builtin.append_ #[t, t] o.type #[sv, .slice (some ad) m c]).run P w = .ok v w' → (execOp a.eval o).run P w = .ok (.value v) w' := fun {v w'} hr1 => by
        unfold execOp
        simp only [ho, resolve, invoke, builtin, Sem.run_bind, Sem.run_pure, Result.andThen_ok, List.map_toArray, List.map_cons, List.map_nil, hs', hx', hr1]
      rcases hown.2 with ⟨h, h0⟩ | ⟨b, cap, h, hH, hnc, hcm⟩
      · have hl0 : l = [] := List.eq_nil_of_length_eq_zero (by rw [hown.1, h0, Nat.zero_mul])
        by_cases hm : m = 0
        · -- nothing is appended to nil
          subst hm
          have hn0 : news = [] := List.eq_nil_of_length_eq_zero (by rw [hlm, Nat.zero_mul])
          have hrun := hexec (v := .slice none 0 0) (w' := w) (by
            rw [h]; simp [Builtin.append_, run_underlying (tslice_u ht), sizeOf, typeInfo, hi, Builtin.lenOf, Builtin.firstCells, loadCells, loadCellsFrom])
          unfold Oper.wp
          rw [hrun]
          have rel := r.put hd (.slice none 0 0)
          rw [cv_slice] at rel
          exact ⟨_, H, hk _ H ⟨by rw [hl0, hn0, h0]; simp, .inl ⟨rfl, by omega⟩⟩ (fun _ _ _ => rfl) (fun b hb' => by cases hb') ⟨fun _ => ⟨h, rfl⟩, fun _ => rfl⟩, ⟨rel.env, rel.size, rel.defers, r.hr⟩, L.refl _ _⟩
        · have hr1 := run_append_nil (P := P) w t o.type e i zv (tslice_u ht) hi hiz ad m c cs (by rw [hcs3, hz]) hcs4 (by omega) (by omega) (by rw [hb]; have : m * bytes ≤ (n + m) * bytes := Nat.mul_le_mul_right _ (by omega); omega)
          subst h0
          simp only [Nat.zero_add] at grow hcap
          refine grow _ _ (hcap 0).1 (hcap 0).2 ?_ ?_ (fun h => absurd h hm) (hexec (by rw [h]; exact hr1))
          · rw [Array.size_append, size_zeroCells, List.size_toArray, hcs3, hzs, ← Nat.add_mul]; congr 1; have := (hcap 0).1; omega
          · rw [Array.toList_append, hl0, List.nil_append, ← hcs2, ← hcs3]; simp
      · obtain ⟨cur, hg, hsz, hlr, hcur⟩ := r.hr.own hH
        have hxs : (cur.toList.take (n * size)).map cv1 = l := by
          apply List.ext_getElem?
          intro j
          rw [List.getElem?_map, List.getElem?_take]
          by_cases hj : j < n * size
          · rw [if_pos hj]; have := hcur j (by rw [hown.1]; exact hj); simpa using this
          · rw [if_neg hj, List.getElem?_eq_none (by rw [hown.1]; omega)]; rfl
        have hxl : (cur.toList.take (n * size)).length = n * size := by rw [List.length_take, Array.length_toList, hsz]; exact Nat.min_eq_left (Nat.mul_le_mul_right _ hnc)
        by_cases hroom : n + m ≤ cap
        · have hle : (n + m) * size ≤ cap * size := Nat.mul_le_mul_right _ hroom
          rw [Nat.add_mul] at hle
          have hr1 := run_append_room (P := P) w t o.type e i (tslice_u ht) hi b n cap cur hg ad m c cs (by rw [hcs3, hz]) hcs4 h1 hroom (by rw [hz, hcs3, hsz]; exact hle)
          rw [hz] at hr1
          have hrun := hexec (by rw [h]; exact hr1)
          unfold Oper.wp
          rw [hrun]
          have rel := r.put hd (.slice (some ⟨b, 0, none⟩) (n + m) cap)
          rw [cv_slice] at rel
          have hlen : (l ++ news).length = (n + m) * size := by rw [List.length_append, hown.1, hlm, Nat.add_mul]
          refine ⟨_, upd H b (some (.cells (l ++ news) e true (cap * size))), hk _ _ ⟨hlen, .inr ⟨b, cap, rfl, upd_same _ _ _, hroom, hcm⟩⟩ (fun x hx1 _ => upd_ne _ _ (fun e => hx1 (by rw [e, h]; rfl))) (fun x hx1 => .inl (by rw [h, ← hx1]; rfl)) ⟨fun hh => (by cases hh), fun ⟨hh, _⟩ => (by rw [h] at hh; cases hh)⟩, ⟨rel.env, rel.size, rel.defers, ?_⟩, L_row hH _⟩
          refine HR_row r.hr hg hH ?_ (by rw [hlen, Nat.add_mul]; exact hle) fun j hj => ?_
          · simp only [List.size_toArray, List.length_append, List.length_drop, hxl, hcs3, Array.length_toList]; omega
          · rw [hlen, Nat.add_mul] at hj
            simp only [List.getElem?_toArray]
            rw [List.getElem?_append_left (by rw [List.length_append, hxl, hcs3]; exact hj), ← hxs, ← hcs2, ← List.map_append, List.getElem?_map]
        · have hr1 := run_append_grow (P := P) w t o.type e i zv (tslice_u ht) hi hiz ⟨b, 0, none⟩ n cap (cur.toList.take (n * size)) (by rw [hxl, hz]) (fun j v hv => by
            rw [List.getElem?_take] at hv
            split at hv
            · rw [addr_add, Nat.zero_add]; simp only [World.cell?, hg]; simpa using hv
            · cases hv) ad m c cs (by rw [hcs3, hz]) hcs4 (by omega) (by omega) (by rw [hb]; exact growslice_fits (by omega) hbytes)
          refine grow _ _ (hcap cap).1 (hcap cap).2 ?_ ?_ (fun _ => by rw [h]; simp) (hexec (by rw [h]; exact hr1))
          · rw [Array.size_append, Array.size_append, size_zeroCells, List.size_toArray, List.size_toArray, hxl, hcs3, hzs, ← Nat.add_mul, ← Nat.add_mul]; congr 1; have := (hcap cap).1; omega
          · rw [Array.toList_append, Array.toList_append, List.take_append_of_le_length (by simp only [List.length_append, hxl, hcs3]; rw [Nat.add_mul]; exact Nat.le_refl _), List.take_of_length_le (by simp only [List.length_append, hxl, hcs3]; rw [Nat.add_mul]; exact Nat.le_refl _), List.map_append, hxs, hcs2]
end Go.Ab

namespace Go.Ab
/-- The function that an operand names, and what it has captured. -/
def calleeOf : Value → Option (FuncId × List Value)
  | .func (.func k) _ captured => some (k, captured.toList)
  | _ => none
theorem run_callFunc_enter {P : Program} {w : World} {k : FuncId} {fn : Func} {c : Code} (hf : P.funcs[k]? = some fn) (hname : (fn.name == "runtime.NumGoroutine") = false) (hb : fn.body = some c) (args : Array Value) : (callFunc k args).run P w = .ok (.enter k args) w := by
  have h1 : fn.name ≠ "runtime.NumGoroutine" := by simpa using hname
  simp [callFunc, hf, h1, hb]
/-- A function with a body. -/
def hasBody (P : Program) (k : FuncId) : Bool := match P.funcs[k]? with
  | some fn => fn.body.isSome && !(fn.name == "runtime.NumGoroutine")
  | none => false
theorem AOp_call {P : Program} {N : Nat} {o : Oper} {env : Env} {H : AH} {K : Env → AH → Prop} {f : Operand} {args : Array Operand} {ts : Array TypeId} {k : FuncId} {first captured : Array Value} (hd : ∀ d, o.dst = some d → d < N)
    (ho : o.op = .call { callee := .value f, args := args, argTypes := ts }) (hf : env.ev f = .func (.func k) first captured) (hp : allPlain captured.toList = true) (hq : allPlain first.toList = true) (hb : hasBody P k = true)
    (h : ACalls P k (first.toList ++ args.toList.map env.ev ++ captured.toList) H fun r H' => K (put env o.dst r) H') : AOp P N o env H K := by
  intro a w r
  have hρ : ∀ z, cv (a.eval z) = env.ev z := fun z => by rw [← ev_envOf, r.env]
  have hf' := cv_plain ((hρ f).trans hf) rfl
  unfold hasBody at hb
  cases hfn : P.funcs[k]? with
  | none => rw [hfn] at hb; cases hb
  | some fn =>
    rw [hfn] at hb
    simp only [Bool.and_eq_true, Bool.not_eq_true'] at hb
    obtain ⟨c, hc⟩ := Option.isSome_iff_exists.1 hb.1
    have hrun : (execOp a.eval o).run P w = .ok (.enter k (first ++ args.map a.eval ++ captured)) w := by
      unfold execOp
      simp only [ho, resolve, Deferred.ofValue, hf', invoke, Sem.run_bind, Sem.run_pure, Result.andThen_ok, run_callFunc_enter hfn hb.2 hc]
    unfold Oper.wp
    rw [hrun]
    simp only [Oper.upon]
    have hplain : ∀ l : List Value, allPlain l = true → l.map cv = l := by
      intro l
      induction l with
      | nil => intro _; rfl
      | cons x l ih =>
        intro hh
        simp only [allPlain, List.all_cons, Bool.and_eq_true] at hh
        rw [List.map_cons, cv_of_plain hh.1, ih hh.2]
    refine (h w (first ++ args.map a.eval ++ captured) r.hr ?_).mono ?_
    · simp only [Array.toList_append, Array.toList_map, List.map_append, List.map_map, hplain _ hp, hplain _ hq]
      congr 2
      apply List.map_congr_left
      intro x _
      exact hρ x
    · intro e w' ⟨v, H', he, hR, hHR, hL⟩
      subst he
      have rel := r.put hd v
      exact ⟨_, H', hR, ⟨rel.env, rel.size, rel.defers, hHR⟩, hL⟩
/-- A function of the library without a body: its entry only computes. -/
def AExt (P : Program) (k : FuncId) (args : List Value) (v : Value) : Prop :=
  ∀ (w : World) (cargs : Array Value), cargs.toList.map cv = args → ∃ u n, (callFunc k cargs).run P w = .ok (.value u) (w.drewN n) ∧ cv u = v
theorem AOp_ext {P : Program} {N : Nat} {o : Oper} {env : Env} {H : AH} {K : Env → AH → Prop} {args : Array Operand} {ts : Array TypeId} {k : FuncId} {v : Value} (hd : ∀ d, o.dst = some d → d < N)
    (ho : o.op = .call { callee := .value (.func k), args := args, argTypes := ts }) (h : AExt P k (args.toList.map env.ev) v) (hk : K (put env o.dst v) H) : AOp P N o env H K := by
  refine AOp_det hd ?_ hk
  intro ρ w hρ hr
  obtain ⟨u, n, h1, h2⟩ := h w (args.map ρ) (by simp only [Array.toList_map, List.map_map]; apply List.map_congr_left; intro x _; exact hρ x)
  refine ⟨u, n, ?_, h2⟩
  have hf : ρ (.func k) = .func (.func k) #[] #[] := cv_plain (hρ (.func k)) rfl
  unfold execOp
  simp only [ho, resolve, Deferred.ofValue, hf, invoke, Sem.run_bind, Sem.run_pure, Result.andThen_ok, Array.empty_append, Array.append_empty, h1]
theorem AExt_of {P : Program} {k : FuncId} {fn : Func} {e : Array Value → Sem Value} (hf : P.funcs[k]? = some fn) (hname : (fn.name == "runtime.NumGoroutine") = false) (hb : fn.body.isNone = true) (hn : Extern.findNext fn = none) (he : Extern.find fn = some e)
    {args : List Value} {v : Value} (h : ∀ (w : World) (cargs : Array Value), cargs.toList.map cv = args → ∃ u n, (e cargs).run P w = .ok u (w.drewN n) ∧ cv u = v) : AExt P k args v := by
  intro w cargs hc
  obtain ⟨u, n, h1, h2⟩ := h w cargs hc
  exact ⟨u, n, by rw [run_callFunc_extern hf hname hb hn he, h1]; rfl, h2⟩
theorem one_arg {cargs : Array Value} {x : Value} (h : cargs.toList.map cv = [x]) : ∃ c, cargs = #[c] ∧ cv c = x := by
  obtain ⟨l⟩ := cargs
  match l, h with
  | [c], h => simp only [List.map_cons, List.map_nil, List.cons.injEq, and_true] at h; exact ⟨c, rfl, h⟩
theorem ext_sqrt {P : Program} (x : Nat) (w : World) (cargs : Array Value) (h : cargs.toList.map cv = [.float .f64 x]) : ∃ u n, (Extern.MathSqrt.sqrt cargs).run P w = .ok u (w.drewN n) ∧ cv u = .float .f64 (fsqrt .f64 x) := by
  obtain ⟨c, rfl, hc⟩ := one_arg h
  obtain ⟨b, rfl, hb⟩ := cv_isfloat hc
  obtain ⟨u, n, h1, h2⟩ := run_sqrt_cn (P := P) w b
  exact ⟨_, n, h1, by rw [cv_float, h2, hb]⟩

/-! ### Results -/
def dresult (P : Program) (env : Env) (H : AH) : ResultVar → Option Value
  | .tmp t => some (env t)
  | .cell a t => match env a with
    | .pointer (some ad) => dload P H t ad
    | _ => none
def dresults (P : Program) (rs : List ResultVar) (env : Env) (H : AH) : Option (List Value) := rs.mapM (dresult P env H)
def packR : List Value → Value
  | [v] => v
  | vs => .tuple vs.toArray
theorem dresult_run {P : Program} {N : Nat} {env : Env} {H : AH} {a : Act} {w : World} (r : Rel N env H a w) {x : ResultVar} {v : Value} (h : dresult P env H x = some v) :
    ∃ u, (match x with | .tmp t => pure (a.tmps.getD t undef) | .cell ad t => do loadVar t (← asAddr (a.tmps.getD ad undef)) : Sem Value).run P w = .ok u w ∧ cv u = v := by
  cases x with
  | tmp t => simp only [dresult, Option.some.injEq] at h; exact ⟨_, rfl, by rw [← h, ← r.env]; rfl⟩
  | cell ad t =>
    simp only [dresult] at h
    split at h
    · rename_i p hp
      obtain ⟨c, h1, h2⟩ := dload_run (P := P) r.hr h
      have hp' : a.tmps.getD ad undef = .pointer (some p) := cv_plain (by rw [← r.env] at hp; exact hp) rfl
      exact ⟨c, by dsimp only; rw [hp']; simp only [asAddr, Sem.run_bind, Sem.run_pure, Result.andThen_ok, h1], h2⟩
    · cases h
theorem dresults_run {P : Program} {N : Nat} {env : Env} {H : AH} {a : Act} {w : World} (r : Rel N env H a w) : ∀ (rs : List ResultVar) (vs : List Value), dresults P rs env H = some vs →
    ∃ us : List Value, (rs.mapM (fun x => match x with | .tmp t => pure (a.tmps.getD t undef) | .cell ad t => do loadVar t (← asAddr (a.tmps.getD ad undef)) : ResultVar → Sem Value)).run P w = .ok us w ∧ us.map cv = vs
  | [], vs, h => by simp [dresults] at h; subst h; exact ⟨[], rfl, rfl⟩
  | x :: rs, vs, h => by
    unfold dresults at h
    rw [List.mapM_cons] at h
    cases hx : dresult P env H x with
    | none => rw [hx] at h; cases h
    | some v =>
      rw [hx] at h
      cases hr : rs.mapM (dresult P env H) with
      | none => rw [hr] at h; cases h
      | some vs' =>
        rw [hr] at h
        simp only [Option.bind_eq_bind, Option.bind_some, Option.pure_def, Option.some.injEq] at h
        obtain ⟨u, h1, h2⟩ := dresult_run (P := P) r hx
        obtain ⟨us, h3, h4⟩ := dresults_run r rs vs' hr
        refine ⟨u :: us, ?_, by rw [← h, List.map_cons, h2, h4]⟩
        rw [List.mapM_cons]
        simp only [Sem.run_bind, h1, h3, Result.andThen_ok, Sem.run_pure]
theorem cv_eq_cv2 {u : Value} (h : noTuple (cv u) = true) : cv2 u = cv u := by cases u <;> first | rfl | (simp [cv, noTuple] at h)
theorem readsRes_of {P : Program} {fn : Func} {N : Nat} {env : Env} {H : AH} {R : Value → AH → Prop} {rs : List ResultVar} {vs : List Value} (hrs : fn.results.toList = rs) (h : dresults P rs env H = some vs) (hn : vs.all noTuple = true) (hR : R (packR vs) H) : readsRes P fn N env H R := by
  intro a w r
  obtain ⟨us, h1, h2⟩ := dresults_run r rs vs h
  have hrun : (results fn a.tmps).run P w = .ok (packR us) w := by
    unfold results
    rw [Array.mapM_eq_mapM_toList, hrs]
    rw [Sem.run_bind, Sem.run_map]
    refine (congrArg (fun r : Result (List Value) => (r.andThen fun a w' => Result.ok a.toArray w').andThen fun a w' => Sem.run P (pure (if h : a.size = 1 then a[0] else Value.tuple a)) w') h1).trans ?_
    match us with
    | [] => rfl
    | [u] => rfl
    | u :: u' :: us => rfl
  refine ⟨packR us, hrun, ?_⟩
  have : cv (packR us) = packR vs := by
    subst h2
    match us, hn with
    | [], _ => simp [packR, cv]
    | [u], _ => rfl
    | u :: u' :: us, hn =>
      simp only [packR, List.map_cons, cv, List.map_toArray]
      congr 2
      have gen : ∀ l : List Value, (l.map cv).all noTuple = true → l.map cv2 = l.map cv := by
        intro l
        induction l with
        | nil => intro _; rfl
        | cons x l ih =>
          intro hh
          simp only [List.map_cons, List.all_cons, Bool.and_eq_true] at hh
          rw [List.map_cons, List.map_cons, cv_eq_cv2 hh.1, ih hh.2]
      exact gen (u :: u' :: us) hn
  rw [this]; exact hR

/-! ### Old blocks under a pure call -/
/-- Each block is only read. -/
def ro (H : AH) : AH := fun b => match H b with
  | some (.cells l e _ room) => some (.cells l e false room)
  | _ => none
/-- The old blocks as they were, the new ones as the call left them. -/
def back (H H' : AH) : AH := fun b => match H b with
  | some blk => some blk
  | none => H' b
theorem HR_ro {H : AH} {w : World} (h : HR H w) : HR (ro H) w := by
  intro b blk hb
  unfold ro at hb
  split at hb
  · rename_i l e own room hH
    injection hb with hb; subst hb
    obtain ⟨o, ho, hR⟩ := h b _ hH
    refine ⟨o, ho, ?_⟩
    cases o with
    | cells cs e' frz => obtain ⟨a1, a2, a3, a4, _⟩ := hR; exact ⟨a1, a2, a3, a4, fun h => by cases h⟩
    | _ => exact hR.elim
  · cases hb
/-- A call that is told for blocks that are only read leaves all blocks as they were. -/
theorem ACalls_pure {P : Program} {f : FuncId} {args : List Value} {H : AH} {R : Value → AH → Prop} (h : ACalls P f args (ro H) R) : ACalls P f args H fun r H'' => ∃ H', R r H' ∧ H'' = back H H' ∧ ∀ b l e room, ro H b = some (.cells l e false room) → H' b = ro H b := by
  intro w cargs hr hc
  refine (h w cargs (HR_ro hr) hc).mono ?_
  intro e w' ⟨v, H', he, hR, hHR, hL⟩
  have hold : ∀ b blk, H b = some blk → w'.heap[b]? = w.heap[b]? := fun b blk hb => by
    cases blk with
    | cells l e own room => exact (hL.ro b l e room (by unfold ro; rw [hb])).1
    | map es c => exact (hL.far b (hr.lt hb) (by unfold ro; rw [hb])).1
  refine ⟨v, back H H', he, ⟨H', hR, rfl, fun b l e room hb => (hL.ro b l e room hb).2⟩, ?_, ?_⟩
  · intro b blk hb
    unfold back at hb
    split at hb
    · rename_i blk' hH
      injection hb with hb; subst hb
      obtain ⟨o, ho, hR'⟩ := hr b _ hH
      exact ⟨o, by rw [hold b _ hH]; exact ho, hR'⟩
    · exact hHR b blk hb
  · refine ⟨hL.os, hL.tape, hL.output, hL.size, hL.dr, fun b hb hn => ?_, fun b l e room hb => ⟨hold b _ hb, by unfold back; rw [hb]⟩⟩
    have hn' : ro H b = none := by unfold ro; rw [hn]
    obtain ⟨h1, h2⟩ := hL.far b hb hn'
    exact ⟨h1, by unfold back; rw [hn]; exact h2⟩
end Go.Ab

namespace Go.Ab

/-! ### 1. Three sorts of operations -/
inductive Cat where | det | new | step
  deriving DecidableEq
def catOf : Op → Cat
  | .alloc _ | .box .. | .buildSlice .. | .makeSlice .. | .makeMap .. => .new
  | .call c => match c.callee with
    | .builtin .len | .builtin .max | .builtin .min => .det
    | _ => .step
  | .store .. | .mapUpdate .. | .insert .. | .mapEntry .. | .entryStore .. | .go _ | .defer _ | .panic _ | .send .. | .select .. | .recv .. | .range .. | .next .. | .entry _ | .ready _ | .waits _ | .lookup .. => .step
  | _ => .det
def isStore : Op → Bool
  | .store .. => true
  | _ => false
/-- What an operation that makes a block makes, and the value that names it. -/
def dnew (P : Program) (o : Op) (env : Env) : Option (Blk × (Nat → Value)) :=
  match o with
  | .alloc t => (tzc P t).map fun zs => (.cells zs t true zs.length, ptr)
  | .box t x => if noTuple (env.ev x) then some (.cells (vcells (env.ev x)) t true (vcells (env.ev x)).length, ptr) else none
  | .makeMap _ none => some (.map [] 0, fun b => .map (some b))
  | .buildSlice t n parts => match tslice P t with
    | some e => match tsz P e with
      | some z => if (tzero P e).isSome && decide (parts.toList.map (·.1) = List.range' 0 parts.toList.length) && decide (parts.toList.length = n) && decide (n * z ≤ 16777216) && (parts.toList.map fun p => env.ev p.2).all (fun v => noTuple v && decide ((vcells v).length = z))
        then some (.cells ((parts.toList.map fun p => env.ev p.2).flatMap vcells) e true (n * z), fun b => .slice (some ⟨b, 0, none⟩) n n) else none
      | none => none
    | none => none
  | .makeSlice t x y => match tslice P t with
    | some e => match tsz P e, tzc P e, tbytes P e, env.ev x, env.ev y with
      | some z, some zs, some nb, .int _ n, .int _ n' => if 0 ≤ n ∧ n' = n ∧ zs.length = z ∧ nb * n.toNat ≤ 281474976710656 ∧ n.toNat ≤ 9223372036854775807
        then some (.cells (List.replicate n.toNat zs).flatten e true (n.toNat * z), fun b => .slice (some ⟨b, 0, none⟩) n.toNat n.toNat) else none
      | _, _, _, _, _ => none
    | none => none
  | _ => none
theorem dnew_new {P : Program} {o : Oper} {env : Env} {blk : Blk} {v : Nat → Value} (h : dnew P o.op env = some (blk, v)) (H : AH) : ANew P o env H blk v := by
  unfold dnew at h
  cases hop : o.op with
  | alloc t =>
    rw [hop] at h; dsimp only at h
    cases hz : tzc P t with
    | none => rw [hz] at h; cases h
    | some zs => rw [hz] at h; simp only [Option.map_some, Option.some.injEq, Prod.mk.injEq] at h; obtain ⟨rfl, rfl⟩ := h; exact ANew_alloc hop hz
  | box t x =>
    rw [hop] at h; dsimp only at h
    split at h
    · rename_i hx; simp only [Option.some.injEq, Prod.mk.injEq] at h; obtain ⟨rfl, rfl⟩ := h; exact ANew_box hop hx
    · cases h
  | makeMap t r =>
    rw [hop] at h
    cases r with
    | some r => cases h
    | none => simp only [Option.some.injEq, Prod.mk.injEq] at h; obtain ⟨rfl, rfl⟩ := h; exact ANew_makeMap hop
  | buildSlice t n parts =>
    rw [hop] at h; dsimp only at h
    cases ht : tslice P t with
    | none => rw [ht] at h; cases h
    | some e =>
      rw [ht] at h; dsimp only at h
      cases hz : tsz P e with
      | none => rw [hz] at h; cases h
      | some z =>
        rw [hz] at h; dsimp only at h
        split at h
        · rename_i hc
          simp only [Bool.and_eq_true, decide_eq_true_eq] at hc
          simp only [Option.some.injEq, Prod.mk.injEq] at h; obtain ⟨rfl, rfl⟩ := h
          exact ANew_buildSlice hop ht hz hc.1.1.1.1 hc.1.1.1.2 hc.1.1.2 hc.1.2 hc.2
        · cases h
  | makeSlice t x y =>
    rw [hop] at h; dsimp only at h
    cases ht : tslice P t with
    | none => rw [ht] at h; cases h
    | some e =>
      rw [ht] at h; dsimp only at h
      split at h
      · rename_i z zs nb k n k' n' hz hzc hnb hx hy
        split at h
        · rename_i hc
          simp only [Option.some.injEq, Prod.mk.injEq] at h; obtain ⟨rfl, rfl⟩ := h
          obtain ⟨h0, h1, h2, h3, h4⟩ := hc
          subst h1
          obtain ⟨m, rfl⟩ := Int.eq_ofNat_of_zero_le h0
          exact ANew_makeSlice hop ht hz hzc h2 hnb hx hy h3 h4
        · cases h
      · cases h
  | _ => rw [hop] at h; cases h
theorem dnew_facts {P : Program} {o : Op} {env : Env} {blk : Blk} {v : Nat → Value} (h : dnew P o env = some (blk, v)) : (∀ b, cv (v b) = v b) ∧ ∀ l e room, blk ≠ .cells l e false room := by
  unfold dnew at h
  cases o with
  | alloc t =>
    dsimp only at h
    cases hz : tzc P t with
    | none => rw [hz] at h; cases h
    | some zs => rw [hz] at h; simp only [Option.map_some, Option.some.injEq, Prod.mk.injEq] at h; obtain ⟨rfl, rfl⟩ := h; exact ⟨fun _ => rfl, by simp⟩
  | box t x =>
    dsimp only at h
    split at h
    · simp only [Option.some.injEq, Prod.mk.injEq] at h; obtain ⟨rfl, rfl⟩ := h; exact ⟨fun _ => rfl, by simp⟩
    · cases h
  | makeMap t r =>
    cases r with
    | some r => cases h
    | none => simp only [Option.some.injEq, Prod.mk.injEq] at h; obtain ⟨rfl, rfl⟩ := h; exact ⟨fun _ => rfl, by simp⟩
  | buildSlice t n parts =>
    dsimp only at h
    cases ht : tslice P t with
    | none => rw [ht] at h; cases h
    | some e =>
      rw [ht] at h; dsimp only at h
      cases hz : tsz P e with
      | none => rw [hz] at h; cases h
      | some z =>
        rw [hz] at h; dsimp only at h
        split at h
        · simp only [Option.some.injEq, Prod.mk.injEq] at h; obtain ⟨rfl, rfl⟩ := h; exact ⟨fun _ => rfl, by simp⟩
        · cases h
  | makeSlice t x y =>
    dsimp only at h
    cases ht : tslice P t with
    | none => rw [ht] at h; cases h
    | some e =>
      rw [ht] at h; dsimp only at h
      split at h
      · split at h
        · simp only [Option.some.injEq, Prod.mk.injEq] at h; obtain ⟨rfl, rfl⟩ := h; exact ⟨fun _ => rfl, by simp⟩
        · cases h
      · cases h
  | _ => cases h

/-! ### 2. They hang on their operands alone -/
theorem map_ev_congr {env env' : Env} {l : List Operand} (h : ∀ x ∈ l, env.ev x = env'.ev x) : l.map env.ev = l.map env'.ev := List.map_congr_left h
theorem parts_congr {env env' : Env} {ps : Array (Nat × Operand)} (h : ∀ x ∈ (ps.toList.map (·.2)).toArray, env.ev x = env'.ev x) : (ps.toList.map fun p => (p.1, env.ev p.2)) = ps.toList.map fun p => (p.1, env'.ev p.2) := by
  apply List.map_congr_left
  intro p hp
  rw [h p.2 (by simp; exact ⟨p.1, by simpa using hp⟩)]
theorem dval_congr {P : Program} {o : Op} {env env' : Env} (H : AH) (h : ∀ x ∈ o.operands, env.ev x = env'.ev x) : dval P o env H = dval P o env' H := by
  unfold dval
  cases o with
  | move x | assign x => simp only [h x (by simp [Op.operands])]
  | pick c a b => simp only [h c (by simp [Op.operands]), h a (by simp [Op.operands]), h b (by simp [Op.operands])]
  | load t x | nilCheck x | unOp _ _ x | convert _ _ x | fieldAddr _ x _ | field _ x _ | extract x _ => simp only [h x (by simp [Op.operands])]
  | binOp op t x y z => simp only [h x (by simp [Op.operands]), h y (by simp [Op.operands])]
  | indexAddr t x y | index t x y => simp only [h x (by simp [Op.operands]), h y (by simp [Op.operands])]
  | slice t x lo hi mx =>
    cases mx with
    | some m => rfl
    | none =>
      have e1 : lo.map env.ev = lo.map env'.ev := by cases lo with
        | none => rfl
        | some l => simp [h l (by simp [Op.operands])]
      have e2 : hi.map env.ev = hi.map env'.ev := by cases hi with
        | none => rfl
        | some l => simp [h l (by simp [Op.operands])]
      simp only [h x (by simp [Op.operands]), e1, e2]
  | build t ps => simp only [parts_congr (ps := ps) (fun x hx => h x (by simpa [Op.operands] using hx))]
  | makeFunc fn a b =>
    have e1 : a.toList.map env.ev = a.toList.map env'.ev := map_ev_congr fun x hx => h x (by simp [Op.operands]; exact .inl (by simpa using hx))
    have e2 : b.toList.map env.ev = b.toList.map env'.ev := map_ev_congr fun x hx => h x (by simp [Op.operands]; exact .inr (by simpa using hx))
    have e3 : a.map env.ev = a.map env'.ev := by apply Array.ext'; simpa using e1
    have e4 : b.map env.ev = b.map env'.ev := by apply Array.ext'; simpa using e2
    simp only [e1, e2, e3, e4]
  | call c =>
    have e1 : c.args.toList.map env.ev = c.args.toList.map env'.ev := map_ev_congr fun x hx => h x (by
      simp only [Op.operands, Call.operands, Array.mem_append]; exact .inr (by simpa using hx))
    have e2 : ∀ x ∈ c.args.toList, env.ev x = env'.ev x := fun x hx => h x (by
      simp only [Op.operands, Call.operands, Array.mem_append]; exact .inr (by simpa using hx))
    dsimp only
    rw [e1]
    split
    · split
      · rename_i x t hx ht; rw [e2 x (by rw [hx]; simp)]
      · rfl
    · rfl
    · rfl
    · rfl
  | _ => rfl
theorem dnew_congr {P : Program} {o : Op} {env env' : Env} (h : ∀ x ∈ o.operands, env.ev x = env'.ev x) : dnew P o env = dnew P o env' := by
  unfold dnew
  cases o with
  | makeMap t r => cases r <;> rfl
  | box t x => simp only [h x (by simp [Op.operands])]
  | makeSlice t x y => simp only [h x (by simp [Op.operands]), h y (by simp [Op.operands])]
  | buildSlice t n ps =>
    have e : (ps.toList.map fun p => env.ev p.2) = ps.toList.map fun p => env'.ev p.2 := by
      apply List.map_congr_left
      intro p hp
      exact h p.2 (by simp [Op.operands]; exact ⟨p.1, by simpa using hp⟩)
    simp only [e]
  | _ => rfl
theorem ev_put {env : Env} {dst : Option Tmp} {v : Value} {x : Operand} (h : ∀ d, dst = some d → x ≠ .tmp d) : (put env dst v).ev x = env.ev x := by
  cases dst with
  | none => rfl
  | some d => cases x with
    | tmp t => simp only [put, Env.ev]; exact upd_ne _ _ (fun e => h d rfl (by rw [e]))
    | _ => rfl
theorem operands_looks {ops : Array Oper} {o : Oper} {t : Tmp} (h : Operand.tmp t ∈ o.op.operands) : t ∈ o.looksAt ops := by
  unfold Oper.looksAt
  refine List.mem_append.2 (.inl (List.mem_filterMap.2 ⟨.tmp t, by simpa using h, rfl⟩))
theorem ops_put {ops : Array Oper} {o : Oper} {env : Env} {dst : Option Tmp} {v : Value} (h : ∀ d, dst = some d → d ∉ o.looksAt ops) : ∀ x ∈ o.op.operands, (put env dst v).ev x = env.ev x :=
  fun x hx => ev_put fun d hd e => h d hd (operands_looks (by rw [← e]; exact hx))
theorem wanted_putE {ops : Array Oper} {o : Oper} {env : Env} {dst : Option Tmp} {v : Value} (h : ∀ d, dst = some d → d ∉ o.looksAt ops) : Region.wanted o (yieldedE ops (put env dst v)) = Region.wanted o (yieldedE ops env) := by
  unfold Region.wanted
  cases hg : o.guard with
  | none => rfl
  | some g =>
    obtain ⟨j, want⟩ := g
    dsimp only
    have : yieldedE ops (put env dst v) j = yieldedE ops env j := by
      unfold yieldedE
      cases hd : (ops[j]?).bind (·.dst) with
      | none => rfl
      | some d =>
        dsimp only
        cases dst with
        | none => rfl
        | some d' =>
          have hne : d ≠ d' := fun e => h d' rfl (by
            unfold Oper.looksAt
            rw [hg]
            dsimp only
            rw [hd, e]
            exact List.mem_append.2 (.inr (by simp)))
          simp only [put, upd_ne _ _ hne]
    rw [this]
theorem put_comm {env : Env} {x y : Option Tmp} (v u : Value) (h : ∀ d, x = some d → y ≠ some d) : put (put env x v) y u = put (put env y u) x v := by
  cases x with
  | none => rfl
  | some d => cases y with
    | none => rfl
    | some e =>
      have hne : d ≠ e := fun he => h d rfl (by rw [he])
      funext i
      simp only [put, upd]
      by_cases h1 : i = e
      · by_cases h2 : i = d
        · exact absurd (h2.symm.trans h1) hne
        · simp [h1, Ne.symm hne]
      · simp [h1]
end Go.Ab

namespace Go.Ab
section
variable (P : Program) (N : Nat) (ops : Array Oper) (Inv : AH → Prop) (Q : Env → AH → Prop)
/-- The operations in the order of the text: what only reads has one value in all views that 'Inv' tells of. -/
def LW : List Oper → Env → AH → Prop
  | [], env, H => Q env H
  | o :: rest, env, H =>
    if Region.wanted o (yieldedE ops env) then
      match catOf o.op with
      | .det => ∃ v, (∀ Hc, Inv Hc → dval P o.op env Hc = some v) ∧ LW rest (put env o.dst v) H
      | .new => ∃ blk v, dnew P o.op env = some (blk, v) ∧ ∀ b, H b = none → LW rest (put env o.dst (v b)) (upd H b (some blk))
      | .step => AOp P N o env H fun env' H' => ((rest = [] ∧ isStore o.op = true) ∨ Inv H') ∧ LW rest env' H'
    else LW rest (put env o.dst undef) H
end
def okPair (ops : Array Oper) (x p : Oper) : Bool := x.apart ops p && !(catOf x.op == .step && catOf p.op == .step) && !(catOf x.op == .new && catOf p.op == .step) && !isStore p.op
section
variable {P : Program} {N : Nat} {ops : Array Oper} {Inv : AH → Prop} {Q : Env → AH → Prop}
theorem okPair_spec {x p : Oper} (h : okPair ops x p = true) : x.apart ops p = true ∧ (catOf x.op = .step → catOf p.op ≠ .step) ∧ (catOf x.op = .new → catOf p.op ≠ .step) ∧ isStore p.op = false := by
  simp only [okPair, Bool.and_eq_true, Bool.not_eq_true', Bool.and_eq_false_iff, beq_eq_false_iff_ne] at h
  obtain ⟨⟨⟨h1, h2⟩, h3⟩, h4⟩ := h
  exact ⟨h1, fun e => h2.resolve_left (fun c => c e), fun e => h3.resolve_left (fun c => c e), h4⟩
theorem wp_shift {o : Oper} {a a' : Act} {w : World} {K K' : Act → World → Prop} (he : execOp a'.eval o = execOp a.eval o) (h : o.wp P a' w K (fun _ _ _ => False)) (hk : ∀ u w1, K (a'.put o.dst u) w1 → K' (a.put o.dst u) w1)
    (hdef : ∀ d w1, ¬ K (({ a' with defers := d :: a'.defers } : Act).put o.dst undef) w1) : o.wp P a w K' (fun _ _ _ => False) := by
  unfold Oper.wp at *
  rw [he] at h
  generalize (execOp a.eval o).run P w = r at *
  cases r with
  | ok n w' =>
    cases n <;> simp only [Oper.upon] at h ⊢
    case value v => exact hk _ _ h
    case skip => exact hk _ _ h
    case defer d => exact absurd h (hdef _ _)
    case enter f args =>
      refine h.mono ?_
      intro e w'' he
      cases e with
      | returned v => exact hk _ _ he
      | panicked c => exact he
      | outgrown => exact he
    case row r args => exact h.mono fun v w' hv => hk _ _ hv
  | halt x w' => cases x <;> simp only [Oper.upon] at h ⊢
theorem To_defers {H0 : AH} {w0 : World} {K : Env → AH → Prop} {a : Act} {d : Deferred} {dst : Option Tmp} {w1 : World} : ¬ To N H0 w0 K (({ a with defers := d :: a.defers } : Act).put dst undef) w1 := by
  rintro ⟨env, H, _, r, _⟩
  have := r.defers
  cases dst <;> simp [Act.put] at this
theorem wp_out {o : Oper} {a : Act} {w : World} {K : Act → World → Prop} (h : o.wp P a w K (fun _ _ _ => False)) (hdef : ∀ d w1, ¬ K (({ a with defers := d :: a.defers } : Act).put o.dst undef) w1) : ∃ u w', K (a.put o.dst u) w' := by
  unfold Oper.wp at h
  generalize (execOp a.eval o).run P w = r at *
  cases r with
  | ok n w' =>
    cases n <;> simp only [Oper.upon] at h
    case value v => exact ⟨_, _, h⟩
    case skip => exact ⟨_, _, h⟩
    case defer d => exact absurd h (hdef _ _)
    case enter f args =>
      obtain ⟨e, w'', fr, hR, _⟩ := h []
      cases e with
      | returned v => exact ⟨_, _, hR⟩
      | panicked c => exact hR.elim
      | outgrown => obtain ⟨_, _, x⟩ := hR; exact x.elim
    case row r args =>
      obtain ⟨v, w'', hR, _⟩ := h default []
      exact ⟨_, _, hR⟩
  | halt x w' => cases x <;> simp only [Oper.upon] at h
theorem AOp_out {o : Oper} {env : Env} {H : AH} {K : Env → AH → Prop} {a : Act} {w : World} (hd : ∀ d, o.dst = some d → d < N) (h : AOp P N o env H K) (r : Rel N env H a w) :
    ∃ u w' H', K (put env o.dst (cv u)) H' ∧ Rel N (put env o.dst (cv u)) H' (a.put o.dst u) w' ∧ L H w H' w' := by
  obtain ⟨u, w', env', H', hk, r', l⟩ := wp_out (h a w r) fun d w1 => To_defers
  have he : env' = put env o.dst (cv u) := by rw [← r'.env]; exact (r.put hd u).env
  subst he
  exact ⟨u, w', H', hk, r', l⟩
/-- A block more. -/
def app : Option (Nat × Blk) → AH → AH
  | none, H => H
  | some (b, blk), H => upd H b (some blk)
def freshIn : Option (Nat × Blk) → AH → Prop
  | none, _ => True
  | some (b, _), H => H b = none
/-- The slot of one operation set back, and its block hidden: another operation, apart from it, does the same. -/
theorem AOp_back {x : Oper} {env : Env} {H : AH} {K K' : Env → AH → Prop} {pd : Option Tmp} {vp : Value} {ob : Option (Nat × Blk)} (hdx : ∀ d, x.dst = some d → d < N) (hdp : ∀ d, pd = some d → d < N) (hs : ∀ cs b, x.op ≠ .select cs b) (hlook : ∀ d, pd = some d → d ∉ x.looksAt ops) (hne : ∀ d, x.dst = some d → pd ≠ some d)
    (hcv : ∀ d, pd = some d → cv (env d) = env d) (hfr : freshIn ob H) (hown : ∀ b blk, ob = some (b, blk) → ∀ l e room, blk ≠ .cells l e false room) (h : AOp P N x env H K)
    (hk : ∀ u H', freshIn ob H' → K (put env x.dst u) H' → K' (put (put env x.dst u) pd vp) (app ob H')) : AOp P N x (put env pd vp) (app ob H) K' := by
  intro a2 w2 r2
  have hrH : HR H w2 := by
    intro c blk hc
    refine r2.hr c blk ?_
    cases ob with
    | none => exact hc
    | some bb =>
      obtain ⟨b, blk'⟩ := bb
      have : c ≠ b := fun e => by rw [e, hfr] at hc; cases hc
      simp only [app, upd_ne _ _ this]; exact hc
  have r2' : Rel N (put env pd vp) H a2 w2 := ⟨r2.env, r2.size, r2.defers, hrH⟩
  obtain ⟨a', r', he, henv, hsz⟩ : ∃ a' : Act, Rel N env H a' w2 ∧ execOp a'.eval x = execOp a2.eval x ∧ (∀ u, envOf (a2.put x.dst u) = put (envOf (a'.put x.dst u)) pd vp) ∧ (∀ u, (a2.put x.dst u).tmps.size = N ∧ (a2.put x.dst u).defers = []) := by
    have hsz2 : ∀ u, (a2.put x.dst u).tmps.size = N ∧ (a2.put x.dst u).defers = [] := fun u => by have := r2'.put hdx u; exact ⟨this.size, this.defers⟩
    cases pd with
    | none => exact ⟨a2, r2', rfl, fun u => rfl, hsz2⟩
    | some d =>
      have r3 := r2'.put (dst := some d) hdp (env d)
      rw [hcv d rfl] at r3
      have e1 : put (put env (some d) vp) (some d) (env d) = env := by
        funext i; simp only [put, upd]; by_cases hi : i = d <;> simp [hi]
      rw [e1] at r3
      refine ⟨a2.put (some d) (env d), r3, ?_, fun u => ?_, hsz2⟩
      · exact execOp_put (ops := ops) x hs a2 (some d) (env d) hlook
      · rw [(r2'.put hdx u).env, (r3.put hdx u).env]
        exact put_comm _ _ fun d' hd' e => hne d' e hd'
  refine wp_shift he (h a' w2 r') (fun u w1 ⟨env', H', hK, rr, ll⟩ => ?_) (fun d w1 => To_defers)
  have e2 : env' = put env x.dst (cv u) := by rw [← rr.env]; exact (r'.put hdx u).env
  subst e2
  have hob : freshIn ob H' ∧ HR (app ob H') w1 ∧ L (app ob H) w2 (app ob H') w1 := by
    cases ob with
    | none => exact ⟨trivial, rr.hr, ll⟩
    | some bb =>
      obtain ⟨b, blk⟩ := bb
      have hbH : (app (some (b, blk)) H) b = some blk := by simp only [app, upd_same]
      have hlt := r2.hr.lt hbH
      obtain ⟨hsame, hfr'⟩ := ll.far b hlt hfr
      refine ⟨hfr', fun c bl hc => ?_, ll.os, ll.tape, ll.output, ll.size, ll.dr, fun c hc hcn => ?_, fun c l e room hc => ?_⟩
      · by_cases hcb : c = b
        · subst hcb
          simp only [app, upd_same] at hc
          obtain ⟨o, ho, hR⟩ := r2.hr c blk hbH
          injection hc with hc; subst hc
          exact ⟨o, by rw [hsame]; exact ho, hR⟩
        · simp only [app, upd_ne _ _ hcb] at hc; exact rr.hr c bl hc
      · have hcb : c ≠ b := fun e => by rw [e, hbH] at hcn; cases hcn
        simp only [app, upd_ne _ _ hcb] at hcn ⊢
        exact ll.far c hc hcn
      · have hcb : c ≠ b := fun ee => by rw [ee, hbH] at hc; injection hc with hc; exact hown b blk rfl _ _ _ hc
        simp only [app, upd_ne _ _ hcb] at hc ⊢
        exact ll.ro c l e room hc
  refine ⟨_, app ob H', hk (cv u) H' hob.1 hK, ⟨?_, (hsz u).1, (hsz u).2, hob.2.1⟩, hob.2.2⟩
  rw [henv u, rr.env]
theorem apart_of {x p : Oper} (h : x.apart ops p = true) : (∀ d, x.dst = some d → d ∉ p.looksAt ops) ∧ (∀ d, x.dst = some d → p.dst ≠ some d) ∧ (∀ d, p.dst = some d → d ∉ x.looksAt ops) := Oper.apart_spec h
theorem LW_det {o : Oper} {rest : List Oper} {env : Env} {H : AH} (hc : catOf o.op = .det) (hw : Region.wanted o (yieldedE ops env) = true) : LW P N ops Inv Q (o :: rest) env H = ∃ v, (∀ Hc, Inv Hc → dval P o.op env Hc = some v) ∧ LW P N ops Inv Q rest (put env o.dst v) H := by
  simp only [LW, hw, if_true, hc]
theorem LW_new {o : Oper} {rest : List Oper} {env : Env} {H : AH} (hc : catOf o.op = .new) (hw : Region.wanted o (yieldedE ops env) = true) : LW P N ops Inv Q (o :: rest) env H = ∃ blk v, dnew P o.op env = some (blk, v) ∧ ∀ b, H b = none → LW P N ops Inv Q rest (put env o.dst (v b)) (upd H b (some blk)) := by
  simp only [LW, hw, if_true, hc]
theorem LW_step {o : Oper} {rest : List Oper} {env : Env} {H : AH} (hc : catOf o.op = .step) (hw : Region.wanted o (yieldedE ops env) = true) : LW P N ops Inv Q (o :: rest) env H = AOp P N o env H fun env' H' => ((rest = [] ∧ isStore o.op = true) ∨ Inv H') ∧ LW P N ops Inv Q rest env' H' := by
  simp only [LW, hw, if_true, hc]
theorem LW_skip {o : Oper} {rest : List Oper} {env : Env} {H : AH} (hw : Region.wanted o (yieldedE ops env) = false) : LW P N ops Inv Q (o :: rest) env H = LW P N ops Inv Q rest (put env o.dst undef) H := by
  simp only [LW, hw, Bool.false_eq_true, if_false]
theorem upd_comm {α : Type} (f : Nat → α) {i j : Nat} (x y : α) (h : i ≠ j) : upd (upd f i x) j y = upd (upd f j y) i x := by
  funext k; simp only [upd]; by_cases h1 : k = j
  · by_cases h2 : k = i
    · exact absurd (h2.symm.trans h1) h
    · simp [h1, Ne.symm h]
  · simp [h1]
def noSel (l : List Oper) : Bool := l.all fun o => match o.op with | .select .. => false | _ => true
theorem noSel_mem {l : List Oper} (h : noSel l = true) {o : Oper} (ho : o ∈ l) : ∀ cs b, o.op ≠ .select cs b := by
  intro cs b e
  have := List.all_eq_true.1 h o ho
  rw [e] at this; cases this
theorem dst_mem {l : List Oper} (h : dstOk N l = true) {o : Oper} (ho : o ∈ l) : ∀ d, o.dst = some d → d < N := by
  intro d hd
  have := List.all_eq_true.1 h o ho
  rw [hd] at this; simpa using this
theorem cons_parts {x p : Oper} {pre post : List Oper} (hok : ∀ y ∈ x :: pre, okPair ops y p = true) (hd : dstOk N (x :: pre ++ p :: post) = true) (hn : noSel (x :: pre ++ p :: post) = true) :
    (∀ y ∈ pre, okPair ops y p = true) ∧ dstOk N (pre ++ p :: post) = true ∧ noSel (pre ++ p :: post) = true :=
  ⟨fun y hy => hok y (List.mem_cons_of_mem _ hy), by simp only [dstOk, List.cons_append, List.all_cons, Bool.and_eq_true] at hd ⊢; exact hd.2, by simp only [noSel, List.cons_append, List.all_cons, Bool.and_eq_true] at hn ⊢; exact hn.2⟩
theorem app_upd {ob : Option (Nat × Blk)} {H : AH} {b : Nat} {blk : Blk} (hb : (app ob H) b = none) (_hf : freshIn ob H) : app ob (upd H b (some blk)) = upd (app ob H) b (some blk) ∧ freshIn ob (upd H b (some blk)) ∧ H b = none := by
  cases ob with
  | none => exact ⟨rfl, trivial, hb⟩
  | some bb =>
    obtain ⟨c, blk'⟩ := bb
    have hne : b ≠ c := fun e => by simp only [app, e, upd_same] at hb; cases hb
    simp only [app, upd_ne _ _ hne] at hb
    exact ⟨upd_comm _ _ _ hne, by simp only [freshIn, upd_ne _ _ (Ne.symm hne)]; exact _hf, hb⟩
/-- What stands ahead of an operation goes on behind it. -/
theorem pull {p : Oper} {vp : Value} {ob : Option (Nat × Blk)} (hown : ∀ b blk, ob = some (b, blk) → ∀ l e room, blk ≠ .cells l e false room) (hA : ∀ (H : AH) b blk, Inv H → H b = none → Inv (upd H b (some blk))) : ∀ (pre post : List Oper) (env : Env) (H : AH), (∀ x ∈ pre, okPair ops x p = true) → dstOk N (pre ++ p :: post) = true → noSel (pre ++ p :: post) = true →
    (∀ d, p.dst = some d → cv (env d) = env d) → freshIn ob H → Inv H →
    (∀ env2 H2, (∀ x ∈ p.op.operands, env2.ev x = env.ev x) → Region.wanted p (yieldedE ops env2) = Region.wanted p (yieldedE ops env) → freshIn ob H2 → Inv H2 → LW P N ops Inv Q (p :: post) env2 H2 → LW P N ops Inv Q post (put env2 p.dst vp) (app ob H2)) →
    LW P N ops Inv Q (pre ++ p :: post) env H → LW P N ops Inv Q (pre ++ post) (put env p.dst vp) (app ob H)
  | [], post, env, H, _, _, _, _, hf, hI, hp, h => hp env H (fun _ _ => rfl) rfl hf hI h
  | x :: pre, post, env, H, hok, hd, hn, hcv, hf, hI, hp, h => by
    obtain ⟨hap, _, _, _⟩ := okPair_spec (hok x (List.mem_cons_self ..))
    obtain ⟨a1, a2, a3⟩ := apart_of hap
    have hdx := dst_mem hd (o := x) (by simp)
    have hdp := dst_mem hd (o := p) (by simp)
    have hnx := noSel_mem hn (o := x) (by simp)
    obtain ⟨hok', hd', hn'⟩ := cons_parts hok hd hn
    have hcomm : ∀ v, put (put env x.dst v) p.dst vp = put (put env p.dst vp) x.dst v := fun v => put_comm _ _ a2
    have hwx : Region.wanted x (yieldedE ops (put env p.dst vp)) = Region.wanted x (yieldedE ops env) := wanted_putE a3
    have hcv' : ∀ v d, p.dst = some d → cv (put env x.dst v d) = put env x.dst v d := fun v d hpd => by
      cases hxd : x.dst with
      | none => exact hcv d hpd
      | some d' =>
        have hne : d ≠ d' := fun e => a2 d' hxd (by rw [hpd, e])
        simp only [put, upd_ne _ _ hne]; exact hcv d hpd
    have hp' : ∀ v env2 H2, (∀ y ∈ p.op.operands, env2.ev y = (put env x.dst v).ev y) → Region.wanted p (yieldedE ops env2) = Region.wanted p (yieldedE ops (put env x.dst v)) → freshIn ob H2 → Inv H2 → LW P N ops Inv Q (p :: post) env2 H2 → LW P N ops Inv Q post (put env2 p.dst vp) (app ob H2) :=
      fun v env2 H2 h1 h2 => hp env2 H2 (fun y hy => (h1 y hy).trans (ops_put a1 y hy)) (h2.trans (wanted_putE a1))
    rw [List.cons_append] at h ⊢
    cases hwx' : Region.wanted x (yieldedE ops env) with
    | false =>
      rw [LW_skip hwx'] at h
      rw [LW_skip (by rw [hwx]; exact hwx'), ← hcomm]
      exact pull hown hA pre post _ H hok' hd' hn' (hcv' _) hf hI (hp' _) h
    | true =>
      cases hc : catOf x.op with
      | det =>
        rw [LW_det hc hwx'] at h
        rw [LW_det hc (by rw [hwx]; exact hwx')]
        obtain ⟨v, hv, hl⟩ := h
        refine ⟨v, fun Hc hI => by rw [dval_congr Hc (ops_put a3)]; exact hv Hc hI, ?_⟩
        rw [← hcomm]
        exact pull hown hA pre post _ H hok' hd' hn' (hcv' _) hf hI (hp' _) hl
      | new =>
        rw [LW_new hc hwx'] at h
        rw [LW_new hc (by rw [hwx]; exact hwx')]
        obtain ⟨blk, v, hv, hl⟩ := h
        refine ⟨blk, v, by rw [dnew_congr (ops_put a3)]; exact hv, fun b hb => ?_⟩
        obtain ⟨e1, e2, e3⟩ := app_upd (blk := blk) hb hf
        rw [← hcomm, ← e1]
        exact pull hown hA pre post _ _ hok' hd' hn' (hcv' _) e2 (hA _ _ _ hI e3) (hp' _) (hl b e3)
      | step =>
        rw [LW_step hc hwx'] at h
        rw [LW_step hc (by rw [hwx]; exact hwx')]
        refine AOp_back (ops := ops) hdx hdp hnx a3 (fun d h1 h2 => a2 d h1 h2) hcv hf hown h fun u H' hf' hK => ?_
        obtain ⟨hK1, hK2⟩ := hK
        have hI' : Inv H' := hK1.resolve_left fun ⟨h, _⟩ => by simp at h
        have hI2 : Inv (app ob H') := by
          cases ob with
          | none => exact hI'
          | some bb => exact hA _ _ _ hI' hf'
        exact ⟨.inr hI2, pull hown hA pre post _ _ hok' hd' hn' (hcv' _) hf' hI' (hp' _) hK2⟩
/-- One way through what stands ahead. -/
theorem reach {p : Oper} (hA : ∀ (H : AH) b blk, Inv H → H b = none → Inv (upd H b (some blk))) : ∀ (pre post : List Oper) (env : Env) (H : AH) (a : Act) (w : World), (∀ x ∈ pre, okPair ops x p = true) → dstOk N (pre ++ p :: post) = true → noSel (pre ++ p :: post) = true → Rel N env H a w → Inv H → LW P N ops Inv Q (pre ++ p :: post) env H →
    ∃ env2 H2, (∀ x ∈ p.op.operands, env2.ev x = env.ev x) ∧ Region.wanted p (yieldedE ops env2) = Region.wanted p (yieldedE ops env) ∧ Inv H2 ∧ LW P N ops Inv Q (p :: post) env2 H2
  | [], post, env, H, a, w, _, _, _, r, hI, h => ⟨env, H, fun _ _ => rfl, rfl, hI, h⟩
  | x :: pre, post, env, H, a, w, hok, hd, hn, r, hI, h => by
    obtain ⟨hap, _, _, _⟩ := okPair_spec (hok x (List.mem_cons_self ..))
    obtain ⟨a1, a2, a3⟩ := apart_of hap
    have hdx := dst_mem hd (o := x) (by simp)
    obtain ⟨hok', hd', hn'⟩ := cons_parts hok hd hn
    have fin : ∀ v H' a' w', Rel N (put env x.dst v) H' a' w' → Inv H' → LW P N ops Inv Q (pre ++ p :: post) (put env x.dst v) H' → ∃ env2 H2, (∀ x ∈ p.op.operands, env2.ev x = env.ev x) ∧ Region.wanted p (yieldedE ops env2) = Region.wanted p (yieldedE ops env) ∧ Inv H2 ∧ LW P N ops Inv Q (p :: post) env2 H2 := fun v H' a' w' r' hI' h' => by
      obtain ⟨env2, H2, h1, h2, h3, h4⟩ := reach hA pre post _ H' a' w' hok' hd' hn' r' hI' h'
      exact ⟨env2, H2, fun y hy => (h1 y hy).trans (ops_put a1 y hy), h2.trans (wanted_putE a1), h3, h4⟩
    rw [List.cons_append] at h
    cases hwx' : Region.wanted x (yieldedE ops env) with
    | false =>
      rw [LW_skip hwx'] at h
      have r' := r.put hdx undef
      rw [cv_undef] at r'
      exact fin _ _ _ _ r' hI h
    | true =>
      cases hc : catOf x.op with
      | det =>
        rw [LW_det hc hwx'] at h
        obtain ⟨v, hv, hl⟩ := h
        obtain ⟨u, n, _, h2⟩ := dval_det (hv H hI) a.eval w (fun y => by rw [← ev_envOf, r.env]) r.hr
        have r' := r.put hdx u
        rw [h2] at r'
        exact fin _ _ _ _ r' hI hl
      | new =>
        rw [LW_new hc hwx'] at h
        obtain ⟨blk, v, hv, hl⟩ := h
        obtain ⟨u, ob, _, h2, h3⟩ := dnew_new hv H a.eval w (fun y => by rw [← ev_envOf, r.env]) r.hr
        have hfr := r.hr.fresh (Nat.le_refl w.heap.size)
        have r' := r.put hdx u
        rw [h2] at r'
        exact fin _ _ _ _ ⟨r'.env, r'.size, r'.defers, h3⟩ (hA _ _ _ hI hfr) (hl _ hfr)
      | step =>
        rw [LW_step hc hwx'] at h
        obtain ⟨u, w', H', hK, r', _⟩ := AOp_out hdx h r
        exact fin _ _ _ _ r' (hK.1.resolve_left fun ⟨h, _⟩ => by simp at h) hK.2
/-- A step may come ahead of what only reads. -/
theorem pullStep {p : Oper} (hcp : catOf p.op = .step) : ∀ (pre post : List Oper) (env : Env) (H : AH), (∀ x ∈ pre, okPair ops x p = true) → dstOk N (pre ++ p :: post) = true → noSel (pre ++ p :: post) = true → Inv H → Region.wanted p (yieldedE ops env) = true → LW P N ops Inv Q (pre ++ p :: post) env H →
    AOp P N p env H fun env' H' => ((pre ++ post = [] ∧ isStore p.op = true) ∨ Inv H') ∧ LW P N ops Inv Q (pre ++ post) env' H'
  | [], post, env, H, _, _, _, _, hw, h => by rw [List.nil_append, LW_step hcp hw] at h; exact h
  | x :: pre, post, env, H, hok, hd, hn, hI, hw, h => by
    obtain ⟨hap, hss, hns, hst⟩ := okPair_spec (hok x (List.mem_cons_self ..))
    obtain ⟨a1, a2, a3⟩ := apart_of hap
    have hdx := dst_mem hd (o := x) (by simp)
    have hdp := dst_mem hd (o := p) (by simp)
    have hnp := noSel_mem hn (o := p) (by simp)
    obtain ⟨hok', hd', hn'⟩ := cons_parts hok hd hn
    rw [List.cons_append] at h
    have main : ∀ (v : Value) (u : Value), cv u = v → LW P N ops Inv Q (pre ++ p :: post) (put env x.dst v) H →
        (∀ env' H', env' = put env p.dst (env'.ev (.tmp 0)) ∨ True → Inv H' → LW P N ops Inv Q (pre ++ post) (put env' x.dst v) H' → (∃ u', env' = put env p.dst u') → LW P N ops Inv Q (x :: pre ++ post) env' H') →
        AOp P N p env H fun env' H' => ((x :: pre ++ post = [] ∧ isStore p.op = true) ∨ Inv H') ∧ LW P N ops Inv Q (x :: pre ++ post) env' H' := by
      intro v u huv hl hback a w r
      have ih := pullStep hcp pre post _ H hok' hd' hn' hI (by rw [wanted_putE a1]; exact hw) hl
      have r' := r.put hdx u
      rw [huv] at r'
      have hex : execOp (a.put x.dst u).eval p = execOp a.eval p := execOp_put (ops := ops) p hnp a x.dst u a1
      refine wp_shift hex (ih _ w r') (fun up w1 ⟨env', H', hK, rr, ll⟩ => ?_) (fun d w1 => To_defers)
      have e2 : env' = put (put env x.dst v) p.dst (cv up) := by rw [← rr.env]; exact (r'.put hdp up).env
      subst e2
      have hI' : Inv H' := hK.1.resolve_left fun ⟨_, h⟩ => by rw [hst] at h; cases h
      have hc := put_comm (env := env) v (cv up) a2
      rw [hc] at hK
      have rp := r.put hdp up
      refine ⟨put env p.dst (cv up), H', ⟨.inr hI', hback _ _ (.inr trivial) hI' hK.2 ⟨_, rfl⟩⟩, ⟨rp.env, rp.size, rp.defers, rr.hr⟩, ll⟩
    cases hwx' : Region.wanted x (yieldedE ops env) with
    | false =>
      rw [LW_skip hwx'] at h
      refine main undef undef cv_undef h fun env' H' _ hI' hl ⟨u', he⟩ => ?_
      rw [List.cons_append, LW_skip (by rw [he, wanted_putE a3]; exact hwx')]
      exact hl
    | true =>
      cases hc : catOf x.op with
      | det =>
        rw [LW_det hc hwx'] at h
        obtain ⟨v, hv, hl⟩ := h
        intro a w r
        obtain ⟨u, n, _, h2⟩ := dval_det (hv H hI) a.eval w (fun y => by rw [← ev_envOf, r.env]) r.hr
        refine main v u h2 hl (fun env' H' _ hI' hl ⟨u', he⟩ => ?_) a w r
        rw [List.cons_append, LW_det hc (by rw [he, wanted_putE a3]; exact hwx')]
        exact ⟨v, fun Hc hIc => by rw [he, dval_congr Hc (ops_put a3)]; exact hv Hc hIc, hl⟩
      | new => exact absurd hcp (hns hc)
      | step => exact absurd hcp (hss hc)
end
end Go.Ab

namespace Go.Ab
def maskOf (acc : List Nat) (o : Oper) : Nat := o.after.toList.foldl (fun s e => if Region.binds .any e then s ||| (2 ^ e.on ||| acc.getD e.on 0) else s) 0
def masks : List Oper → List Nat → List Nat
  | [], acc => acc
  | o :: r, acc => masks r (acc ++ [maskOf acc o])
/-- In each pair one waits for the other, or they may change places. -/
def drawB (ops : List Oper) : Bool :=
  let M := masks ops []
  (List.range ops.length).all fun i => ((ops.getD i default).after.all fun e => !Region.binds .any e || decide (e.on < i)) && (List.range i).all fun x => (M.getD i 0).testBit x || okPair ops.toArray (ops.getD x default) (ops.getD i default)
theorem masks_length : ∀ (l : List Oper) (acc : List Nat), (masks l acc).length = acc.length + l.length
  | [], acc => rfl
  | o :: r, acc => by rw [masks, masks_length r]; simp; omega
theorem masks_prefix : ∀ (l : List Oper) (acc : List Nat) (i : Nat), i < acc.length → (masks l acc)[i]? = acc[i]?
  | [], _, _, _ => rfl
  | o :: r, acc, i, h => by rw [masks, masks_prefix r _ i (by simp; omega), List.getElem?_append_left h]
theorem masks_get : ∀ (l : List Oper) (acc : List Nat) (i : Nat) (o : Oper), l[i]? = some o → ∃ acc', (masks l acc)[acc.length + i]? = some (maskOf acc' o) ∧ acc'.length = acc.length + i ∧ ∀ j, j < acc'.length → (masks l acc)[j]? = acc'[j]?
  | [], _, i, _, h => by simp at h
  | p :: r, acc, 0, o, h => by
    simp only [List.getElem?_cons_zero, Option.some.injEq] at h
    subst h
    refine ⟨acc, ?_, rfl, fun j hj => ?_⟩
    · rw [masks, masks_prefix r _ _ (by simp)]; simp
    · rw [masks, masks_prefix r _ j (by simp; omega), List.getElem?_append_left hj]
  | p :: r, acc, i + 1, o, h => by
    simp only [List.getElem?_cons_succ] at h
    obtain ⟨acc', h1, h2, h3⟩ := masks_get r (acc ++ [maskOf acc p]) i o h
    simp only [List.length_append, List.length_cons, List.length_nil] at h1 h2
    exact ⟨acc', by rw [masks, show acc.length + (i + 1) = acc.length + (0 + 1) + i by omega]; exact h1, by rw [h2]; omega, fun j hj => by rw [masks]; exact h3 j hj⟩
theorem fold_bit (acc : List Nat) : ∀ (es : List Edge) (s x : Nat), (es.foldl (fun s e => if Region.binds .any e then s ||| (2 ^ e.on ||| acc.getD e.on 0) else s) s).testBit x = true →
    s.testBit x = true ∨ ∃ e ∈ es, Region.binds .any e = true ∧ (e.on = x ∨ (acc.getD e.on 0).testBit x = true)
  | [], s, x, h => .inl h
  | e :: es, s, x, h => by
    simp only [List.foldl_cons] at h
    rcases fold_bit acc es _ x h with h | ⟨e', he', hb, hx⟩
    · split at h
      · rename_i hbd
        simp only [Nat.testBit_or, Bool.or_eq_true, Nat.testBit_two_pow, decide_eq_true_eq] at h
        rcases h with h | h | h
        · exact .inl h
        · exact .inr ⟨e, List.mem_cons_self .., hbd, .inl h⟩
        · exact .inr ⟨e, List.mem_cons_self .., hbd, .inr h⟩
      · exact .inl h
    · exact .inr ⟨e', List.mem_cons_of_mem _ he', hb, hx⟩
def Closed (ops : Array Oper) (listed : Array Bool) : Prop := ∀ (j : Nat) (oj : Oper), ops[j]? = some oj → listed.getD j false = true → ∀ e ∈ oj.after, Region.binds .any e = true → listed.getD e.on false = true
theorem mask_listed {l : List Oper} {listed : Array Bool} (hc : Closed l.toArray listed) : ∀ (i : Nat) (o : Oper), l[i]? = some o → (∀ e ∈ o.after, Region.binds .any e = true → listed.getD e.on false = true) → ∀ x, ((masks l []).getD i 0).testBit x = true → listed.getD x false = true := by
  intro i
  induction i using Nat.strongRecOn with
  | _ i ih =>
    intro o ho hall x hx
    obtain ⟨acc', h1, h2, h3⟩ := masks_get l [] i o ho
    simp only [List.length_nil, Nat.zero_add] at h1 h2
    simp only [List.getD_eq_getElem?_getD, h1, Option.getD_some] at hx
    rcases fold_bit acc' _ 0 x hx with h | ⟨e, he, hb, hx⟩
    · simp at h
    · have he' : e ∈ o.after := by simpa using he
      have hl := hall e he' hb
      rcases hx with hx | hx
      · rw [← hx]; exact hl
      · have hlt : e.on < acc'.length := by
          rcases Nat.lt_or_ge e.on acc'.length with h | h
          · exact h
          · rw [List.getD_eq_getElem?_getD, List.getElem?_eq_none h] at hx; simp at hx
        have hm : acc'.getD e.on 0 = (masks l []).getD e.on 0 := by simp only [List.getD_eq_getElem?_getD, h3 e.on hlt]
        rw [hm] at hx
        cases hoe : l[e.on]? with
        | none =>
          have hlen := masks_length l []
          simp only [List.length_nil, Nat.zero_add] at hlen
          rw [List.getD_eq_getElem?_getD, List.getElem?_eq_none (by rw [hlen]; exact (List.getElem?_eq_none_iff.1 hoe))] at hx
          simp at hx
        | some oe => exact ih e.on (by omega) oe hoe (hc e.on oe (by simpa using hoe) hl) x hx
/-- What is still to come, in the order of the text. -/
structure Rest (l : List Oper) (listed : Array Bool) (R : List (Nat × Oper)) : Prop where
  size : listed.size = l.length
  closed : Closed l.toArray listed
  idx : R.map (·.1) = (List.range l.length).filter fun i => !listed.getD i true
  at_ : ∀ x ∈ R, l[x.1]? = some x.2
section
variable {P : Program} {N : Nat} {Inv : AH → Prop} {Q : Env → AH → Prop}
theorem any_order {l : List Oper} {Qx : Exit → Env → AH → Prop} (hA : ∀ (H : AH) b blk, Inv H → H b = none → Inv (upd H b (some blk))) (hB : drawB l = true) (hd : dstOk N l = true) (hn : noSel l = true) {H0 : AH} {w0 : World} :
    ∀ (fuel : Nat) (R : List (Nat × Oper)) (listed : Array Bool) (env : Env) (H : AH) (a : Act) (w : World), R.length = fuel → Rest l listed R → Rel N env H a w → (R = [] ∨ Inv H) → L H0 w0 H w → LW P N l.toArray Inv (Qx .normal) (R.map (·.2)) env H →
    wpAny P .any l.toArray (fun e a' w' => To N H0 w0 (Qx e) a' w') fuel listed a w := by
  have hB' := hB
  simp only [drawB, List.all_eq_true, List.mem_range, Bool.and_eq_true] at hB'
  intro fuel
  induction fuel with
  | zero =>
    intro R listed env H a w hl hR r _ ll h
    have hR0 : R = [] := List.eq_nil_of_length_eq_zero hl
    subst hR0
    refine ⟨?_, ⟨env, H, h, r, ll⟩⟩
    refine List.eq_nil_iff_forall_not_mem.2 fun i hi => ?_
    obtain ⟨h0, o, ho, _⟩ := mem_ready.1 hi
    have hlt : i < l.length := by have := (Array.getElem?_eq_some_iff.1 ho).1; simpa using this
    have : i ∈ (List.range l.length).filter fun i => !listed.getD i true := List.mem_filter.2 ⟨List.mem_range.2 hlt, by rw [h0]; rfl⟩
    rw [← hR.idx] at this
    cases this
  | succ fuel ih =>
    intro R listed env H a w hl hR r hI ll h
    have hRne : R ≠ [] := fun e => by rw [e] at hl; simp at hl
    have hI : Inv H := hI.resolve_left hRne
    refine ⟨fun h0 => ?_, fun i hi => ?_⟩
    · -- the first one is ready
      exfalso
      match R, hRne, hR with
      | (i, o) :: R', _, hR =>
        have hio := hR.at_ (i, o) (List.mem_cons_self ..)
        dsimp only at hio
        have himem : i ∈ (List.range l.length).filter fun i => !listed.getD i true := by rw [← hR.idx]; exact List.mem_cons_self ..
        obtain ⟨hil, hun⟩ := List.mem_filter.1 himem
        have hil := List.mem_range.1 hil
        have hfirst : ∀ j, j < i → listed.getD j true = true := fun j hj => by
          cases hlj : listed.getD j true with
          | true => rfl
          | false =>
            exfalso
            have hjm : j ∈ (List.range l.length).filter fun i => !listed.getD i true := List.mem_filter.2 ⟨List.mem_range.2 (by omega), by rw [hlj]; rfl⟩
            have hsorted : ((List.range l.length).filter fun i => !listed.getD i true).Pairwise (· < ·) := List.Pairwise.filter _ List.pairwise_lt_range
            rw [← hR.idx] at hjm hsorted
            simp only [List.map_cons, List.mem_cons, List.pairwise_cons] at hjm hsorted
            rcases hjm with h | h
            · omega
            · have := hsorted.1 j h; omega
        have hready : i ∈ Region.ready .any l.toArray listed := mem_ready.2 ⟨by simpa using hun, o, by simpa using hio, fun e he hb => by
          have := (hB' i hil).1
          rw [List.getD_eq_getElem?_getD, hio, Option.getD_some, Array.all_eq_true_iff_forall_mem] at this
          have h1 := this e he
          simp only [hb, Bool.not_true, Bool.false_or, decide_eq_true_eq] at h1
          have h2 := hfirst e.on h1
          have hsz : e.on < listed.size := by rw [hR.size]; omega
          simpa [Array.getD, hsz] using h2⟩
        rw [h0] at hready; cases hready
    · obtain ⟨hun, o, ho, hall⟩ := mem_ready.1 hi
      have hol : l[i]? = some o := by simpa using ho
      have hil : i < l.length := (List.getElem?_eq_some_iff.1 hol).1
      have himem : i ∈ R.map (·.1) := by rw [hR.idx]; exact List.mem_filter.2 ⟨List.mem_range.2 hil, by rw [hun]; rfl⟩
      obtain ⟨⟨i', o'⟩, hmem, hii⟩ := List.mem_map.1 himem
      dsimp only at hii
      subst hii
      have ho' : o' = o := by have := hR.at_ _ hmem; dsimp only at this; rw [hol] at this; injection this with this; exact this.symm
      subst ho'
      obtain ⟨pre, post, hsplit⟩ := List.append_of_mem hmem
      -- what stands ahead may change places with it
      have hsorted : (R.map (·.1)).Pairwise (· < ·) := by rw [hR.idx]; exact List.Pairwise.filter _ List.pairwise_lt_range
      have hpre : ∀ x ∈ pre, x.1 < i' ∧ listed.getD x.1 true = false := fun x hx => by
        have hxR : x ∈ R := by rw [hsplit]; exact List.mem_append.2 (.inl hx)
        constructor
        · rw [hsplit, List.map_append, List.map_cons, List.pairwise_append] at hsorted
          exact hsorted.2.2 x.1 (List.mem_map.2 ⟨x, hx, rfl⟩) i' (List.mem_cons_self ..)
        · have : x.1 ∈ R.map (·.1) := List.mem_map.2 ⟨x, hxR, rfl⟩
          rw [hR.idx] at this
          simpa using (List.mem_filter.1 this).2
      have hok : ∀ x ∈ pre.map (·.2), okPair l.toArray x o' = true := fun x hx => by
        obtain ⟨y, hy, rfl⟩ := List.mem_map.1 hx
        obtain ⟨h1, h2⟩ := hpre y hy
        have hyl := hR.at_ y (by rw [hsplit]; exact List.mem_append.2 (.inl hy))
        have := (hB' i' hil).2 y.1 h1
        simp only [Bool.or_eq_true] at this
        rcases this with h | h
        · exfalso
          have := mask_listed hR.closed i' o' hol hall y.1 h
          have hsz : y.1 < listed.size := by rw [hR.size]; omega
          simp [Array.getD, hsz] at this h2
          rw [h2] at this; cases this
        · simpa [List.getD_eq_getElem?_getD, hyl, hol] using h
      have hmapR : R.map (·.2) = pre.map (·.2) ++ o' :: post.map (·.2) := by rw [hsplit]; simp
      rw [hmapR] at h
      have hsub : ∀ x ∈ pre.map (·.2) ++ o' :: post.map (·.2), x ∈ l := fun x hx => by
        rw [← hmapR] at hx
        obtain ⟨y, hy, rfl⟩ := List.mem_map.1 hx
        exact List.mem_of_getElem? (hR.at_ y hy)
      have hd' : dstOk N (pre.map (·.2) ++ o' :: post.map (·.2)) = true := List.all_eq_true.2 fun x hx => List.all_eq_true.1 hd x (hsub x hx)
      have hn' : noSel (pre.map (·.2) ++ o' :: post.map (·.2)) = true := List.all_eq_true.2 fun x hx => List.all_eq_true.1 hn x (hsub x hx)
      have hdo := dst_mem hd (o := o') (hsub o' (by simp))
      -- what is to come behind it
      have hR' : Rest l (listed.setIfInBounds i' true) (pre ++ post) := by
        refine ⟨by simp [hR.size], fun j oj hj hlj e he hb => ?_, ?_, fun x hx => hR.at_ x (by rw [hsplit]; rcases List.mem_append.1 hx with h | h <;> simp [h])⟩
        · by_cases hij : i' = j
          · subst hij
            have : oj = o' := by rw [ho] at hj; injection hj with hj; exact hj.symm
            subst this
            exact getD_set_true (hall e he hb)
          · rw [getD_set_ne false hij] at hlj
            exact getD_set_true (hR.closed j oj hj hlj e he hb)
        · have hfil : ((List.range l.length).filter fun j => !(listed.setIfInBounds i' true).getD j true) = (R.map (·.1)).filter (· ≠ i') := by
            rw [hR.idx, List.filter_filter]
            apply List.filter_congr
            intro j _
            by_cases hij : i' = j
            · subst hij
              have hsz : i' < listed.size := by rw [hR.size]; omega
              simp [hsz]
            · rw [getD_set_ne true hij]; simp [Ne.symm hij]
          rw [hfil, hsplit, List.map_append, List.map_append, List.map_cons, List.filter_append]
          rw [hsplit, List.map_append, List.map_cons, List.pairwise_append, List.pairwise_cons] at hsorted
          have e1 : (pre.map (·.1)).filter (· ≠ i') = pre.map (·.1) := List.filter_eq_self.2 fun x hx => by have := hsorted.2.2 x hx i' (List.mem_cons_self ..); simp; omega
          have e2 : (post.map (·.1)).filter (· ≠ i') = post.map (·.1) := List.filter_eq_self.2 fun x hx => by have := hsorted.2.1.1 x hx; simp; omega
          rw [e1, List.filter_cons_of_neg (by simp), e2]
      have hlen : (pre ++ post).length = fuel := by rw [hsplit] at hl; simp at hl ⊢; omega
      have hmapR' : (pre ++ post).map (·.2) = pre.map (·.2) ++ post.map (·.2) := by simp
      have go : ∀ env' H' a' w', Rel N env' H' a' w' → ((pre ++ post) = [] ∨ Inv H') → L H w H' w' → LW P N l.toArray Inv (Qx .normal) (pre.map (·.2) ++ post.map (·.2)) env' H' → wpAny P .any l.toArray (fun e a' w' => To N H0 w0 (Qx e) a' w') fuel (listed.setIfInBounds i' true) a' w' := fun env' H' a' w' r' hI' l' h' =>
        ih (pre ++ post) _ env' H' a' w' hlen hR' r' hI' (ll.trans l') (by rw [hmapR']; exact h')
      have hcvE : ∀ i, cv (env i) = env i := fun i => by rw [← r.env]; exact cv_cv _
      unfold wpOp
      rw [ho]
      dsimp only
      rw [yielded_eq, r.env]
      obtain ⟨env2, H2, g1, g2, g3, g4⟩ := reach hA _ _ env H a w hok hd' hn' r hI h
      cases hw : Region.wanted o' (yieldedE l.toArray env) with
      | false =>
        simp only [Bool.false_eq_true, if_false]
        have hp := pull (p := o') (vp := undef) (ob := none) (by simp) hA _ _ env H hok hd' hn' (fun d _ => hcvE d) trivial hI (fun e2 h2 _ hw2 _ _ hl2 => by rw [LW_skip (by rw [hw2]; exact hw)] at hl2; exact hl2) h
        have r' := r.put hdo undef
        rw [cv_undef] at r'
        exact go _ _ _ _ r' (.inr hI) (L.refl _ _) hp
      | true =>
        simp only [if_true]
        refine .inl ?_
        cases hc : catOf o'.op with
        | det =>
          rw [LW_det hc (by rw [g2]; exact hw)] at g4
          obtain ⟨v, hv, _⟩ := g4
          have hvE : ∀ Hc, Inv Hc → dval P o'.op env Hc = some v := fun Hc hIc => by rw [← dval_congr Hc g1]; exact hv Hc hIc
          have hp := pull (p := o') (vp := v) (ob := none) (by simp) hA _ _ env H hok hd' hn' (fun d _ => hcvE d) trivial hI (fun e2 h2 he hw2 _ hI2 hl2 => by
            rw [LW_det hc (by rw [hw2]; exact hw)] at hl2
            obtain ⟨v2, hv2, hl2⟩ := hl2
            have : v2 = v := by
              have h1 := hv2 h2 hI2
              rw [dval_congr h2 he, hvE h2 hI2] at h1
              injection h1 with h1; exact h1.symm
            rw [← this]; exact hl2) h
          obtain ⟨u, n, h1, h2⟩ := dval_det (hvE H hI) a.eval w (fun y => by rw [← ev_envOf, r.env]) r.hr
          unfold Oper.wp
          rw [h1]
          have r' := r.put hdo u
          rw [h2] at r'
          exact go _ _ _ _ ⟨r'.env, r'.size, r'.defers, r'.hr⟩ (.inr hI) (L.drewN H w n) hp
        | new =>
          rw [LW_new hc (by rw [g2]; exact hw)] at g4
          obtain ⟨blk, v, hv, _⟩ := g4
          have hvE : dnew P o'.op env = some (blk, v) := by rw [← dnew_congr g1]; exact hv
          obtain ⟨f1, f2⟩ := dnew_facts hvE
          obtain ⟨u, ob, h1, h2, h3⟩ := dnew_new hvE H a.eval w (fun y => by rw [← ev_envOf, r.env]) r.hr
          have hfr := r.hr.fresh (Nat.le_refl w.heap.size)
          have hp := pull (p := o') (vp := v w.heap.size) (ob := some (w.heap.size, blk)) (by rintro b bl ⟨⟩; exact f2) hA _ _ env H hok hd' hn' (fun d _ => hcvE d) hfr hI (fun e2 h2 he hw2 hfr2 hI2 hl2 => by
            rw [LW_new hc (by rw [hw2]; exact hw)] at hl2
            obtain ⟨blk2, v2, hv2, hl2⟩ := hl2
            rw [dnew_congr he, hvE] at hv2
            injection hv2 with hv2
            injection hv2 with e1 e2
            subst e1; subst e2
            exact hl2 _ hfr2) h
          unfold Oper.wp
          rw [h1]
          have r' := r.put hdo u
          rw [h2] at r'
          exact go _ _ _ _ ⟨r'.env, r'.size, r'.defers, h3⟩ (.inr (hA _ _ _ hI hfr)) (L_new r.hr ob blk) hp
        | step =>
          have hp := pullStep hc _ _ env H hok hd' hn' hI hw h
          refine wp_mono2 (hp a w r) fun a' w' ⟨env', H', hK, r', l'⟩ => ?_
          refine go env' H' a' w' r' ?_ l' hK.2
          rcases hK.1 with ⟨h, _⟩ | h
          · left; cases pre <;> cases post <;> simp_all
          · exact .inr h
/-- The rule: 'W' names the blocks that the region may change. -/
def keeps (H0 : AH) (W : List Nat) : AH → Prop := fun Hc => ∀ b blk, b ∉ W → H0 b = some blk → Hc b = some blk
theorem AWp_draw {l : List Oper} {id : Nat} {Qx : Exit → Env → AH → Prop} {env : Env} {H : AH} (W : List Nat) (hm : P.follows .mixedOrders = true) (hB : drawB l = true) (hd : dstOk N l = true) (hn : noSel l = true)
    (h : LW P N l.toArray (keeps H W) (Qx .normal) l env H) : AWp P N (.region id l.toArray true) Qx env H := by
  intro a w r
  refine wp_region_any hm ?_
  have hI : keeps H W H := fun b blk _ hb => hb
  have hA : ∀ (H1 : AH) b blk, keeps H W H1 → H1 b = none → keeps H W (upd H1 b (some blk)) := fun H1 b blk hk hb c bl hc hcb => by
    have h1 := hk c bl hc hcb
    have hne : c ≠ b := fun e => by rw [e, hb] at h1; cases h1
    rw [upd_ne _ _ hne]; exact h1
  have hzip : (l.zipIdx.map fun x => (x.2, x.1)).map (·.2) = l := by
    rw [List.map_map]
    have : ((fun x : Nat × Oper => x.2) ∘ fun x : Oper × Nat => (x.2, x.1)) = Prod.fst := rfl
    rw [this, List.zipIdx_map_fst]
  have r0 : Rel N env H a { w with drawn := w.drawn + 1 } := ⟨r.env, r.size, r.defers, r.hr⟩
  have := any_order (P := P) (Qx := Qx) (H0 := H) (w0 := w) hA hB hd hn l.length (l.zipIdx.map fun x => (x.2, x.1)) (Array.replicate l.length false) env H a { w with drawn := w.drawn + 1 } (by simp) ?_ r0 (.inr hI) (L.drewN H w 1) (by rw [hzip]; exact h)
  · simpa using this
  · refine ⟨by simp, fun j oj _ hl => ?_, ?_, fun x hx => ?_⟩
    · exfalso
      rcases Nat.lt_or_ge j l.length with h | h
      · simp [Array.getD, h] at hl
      · simp [Array.getD, Nat.not_lt.2 h] at hl
    · rw [List.map_map]
      have : ((fun x : Nat × Oper => x.1) ∘ fun x : Oper × Nat => (x.2, x.1)) = Prod.snd := rfl
      rw [this, List.zipIdx_map_snd, ← List.range_eq_range']
      symm
      refine List.filter_eq_self.2 fun j hj => ?_
      have := List.mem_range.1 hj
      simp [Array.getD, this]
    · obtain ⟨⟨o, i⟩, hm, rfl⟩ := List.mem_map.1 hx
      exact List.mem_zipIdx_iff_getElem?.1 hm
end
end Go.Ab

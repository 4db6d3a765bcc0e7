/- Laws of a view of memory in which all not-a-numbers are one value, with which the texts of this claim walk through the program; no conditions beside those that each law tells. -/
import Derived.Test.YtpiidmgenkjiiaaGreatVa
import Derived.WideKeyRuns
namespace Go.Ab
section
variable (P : Program) (N : Nat) (ops : Array Oper) (Q : Exit → Env → AH → Prop)
/-- The operations of a region one behind the other, each by its sort. -/
def EL : List Oper → Env → AH → Prop
  | [], env, H => Q .normal env H
  | o :: rest, env, H =>
    if Region.wanted o (yieldedE ops env) then
      match catOf o.op with
      | .det => ∃ v, dval P o.op env H = some v ∧ EL rest (put env o.dst v) H
      | .new => ∃ blk v, dnew P o.op env = some (blk, v) ∧ ∀ b, H b = none → EL rest (put env o.dst (v b)) (upd H b (some blk))
      | .step => AOp P N o env H (EL rest)
    else EL rest (put env o.dst undef) H
end
section
variable {P : Program} {N : Nat} {ops : Array Oper} {Q : Exit → Env → AH → Prop}
theorem EL_ALst : ∀ (l : List Oper) (env : Env) (H : AH), dstOk N l = true → EL P N ops Q l env H → ALst P N ops Q l env H
  | [], _, _, _, h => h
  | o :: rest, env, H, hd, h => by
    obtain ⟨hd1, hd2⟩ := dstOk_head hd
    unfold EL at h
    unfold ALst
    split
    · rename_i hw
      rw [if_pos hw] at h
      split at h
      · obtain ⟨v, hv, hk⟩ := h
        exact AOp_det hd1 (dval_det hv) (EL_ALst rest _ _ hd2 hk)
      · obtain ⟨blk, v, hv, hk⟩ := h
        exact AOp_new hd1 (dnew_new hv H) fun b hb => EL_ALst rest _ _ hd2 (hk b hb)
      · exact h.mono fun e H' hk => EL_ALst rest e H' hd2 hk
    · rename_i hw
      rw [if_neg hw] at h
      exact EL_ALst rest _ _ hd2 h
theorem AWp_E {env : Env} {H : AH} {id : Nat} {l : List Oper} (hd : dstOk N l = true) (h : EL P N l.toArray Q l env H) : AWp P N (.region id l.toArray false) Q env H :=
  AWp_region hd (EL_ALst l env H hd h)
end

/-! ### How memories follow each other -/
def Keep (H H' : AH) : Prop := ∀ c blk, H c = some blk → H' c = some blk
def KeepX (x : Option Nat) (H H' : AH) : Prop := ∀ c blk, some c ≠ x → H c = some blk → H' c = some blk
theorem Keep.refl (H : AH) : Keep H H := fun _ _ h => h
theorem Keep.trans {H H1 H2 : AH} (a : Keep H H1) (b : Keep H1 H2) : Keep H H2 := fun c blk h => b c blk (a c blk h)
theorem Keep.none {H H' : AH} (k : Keep H H') {b : Nat} (h : H' b = none) : H b = none := by
  cases hb : H b with
  | none => rfl
  | some blk => rw [k b blk hb] at h; cases h
theorem Keep.upd {H : AH} {b : Nat} (h : H b = .none) (blk : Blk) : Keep H (Ab.upd H b (some blk)) := fun c x hc => by
  have hne : c ≠ b := fun e => by rw [e, h] at hc; cases hc
  rw [upd_ne _ _ hne]; exact hc
theorem KeepX.upd (H : AH) (b : Nat) (blk : Blk) : KeepX (some b) H (Ab.upd H b (some blk)) := fun c x hc h => by
  rw [upd_ne _ _ (fun e => hc (by rw [e]))]; exact h
/-- A change in a block that the first memory did not have. -/
theorem Keep.transX {H H1 H2 : AH} {b : Nat} (a : Keep H H1) (hb : H b = .none) (x : KeepX (some b) H1 H2) : Keep H H2 := fun c blk h => x c blk (fun e => by injection e with e; rw [e, hb] at h; cases h) (a c blk h)
theorem KeepX.refl (x : Option Nat) (H : AH) : KeepX x H H := fun _ _ _ h => h
theorem KeepX.trans {x : Option Nat} {H H1 H2 : AH} (a : KeepX x H H1) (b : KeepX x H1 H2) : KeepX x H H2 := fun c blk hc h => b c blk hc (a c blk hc h)
theorem Keep.toX {x : Option Nat} {H H' : AH} (a : Keep H H') : KeepX x H H' := fun c blk _ h => a c blk h
theorem ne_of {H : AH} {b c : Nat} {x : Blk} (h1 : H b = some x) (h2 : H c = none) : b ≠ c := fun e => by rw [e, h2] at h1; cases h1
theorem some_ne {b c : Nat} (h : b ≠ c) : some b ≠ some c := fun e => h (by injection e)
theorem ne_type {H : AH} {b c e e' : Nat} {l l' : List Value} {o o' : Bool} {r r' : Nat} (h1 : H b = some (.cells l e o r)) (h2 : H c = some (.cells l' e' o' r')) (h : (e == e') = false) : b ≠ c := fun hbc => by
  subst hbc; rw [h1] at h2; injection h2 with h2; injection h2 with _ h2; rw [h2] at h; simp at h

/-! ### Rules in the order of the text -/
section
variable {P : Program} {N : Nat} {ops : Array Oper} {Q : Exit → Env → AH → Prop} {o : Oper} {rest : List Oper} {env : Env} {H : AH} {d : Option Tmp}
theorem E_nil (h : Q .normal env H) : EL P N ops Q [] env H := h
theorem E_det {v : Value} (hw : Region.wanted o (yieldedE ops env) = true) (hd : o.dst = d) (hc : catOf o.op = .det) (h : dval P o.op env H = some v) (hk : EL P N ops Q rest (put env d v) H) : EL P N ops Q (o :: rest) env H := by
  subst hd; unfold EL; rw [if_pos hw, hc]; exact ⟨v, h, hk⟩
theorem E_skip (hw : Region.wanted o (yieldedE ops env) = false) (hd : o.dst = d) (hk : EL P N ops Q rest (put env d undef) H) : EL P N ops Q (o :: rest) env H := by
  subst hd; unfold EL; rw [if_neg (by rw [hw]; decide)]; exact hk
theorem E_new {blk : Blk} {v : Nat → Value} (hw : Region.wanted o (yieldedE ops env) = true) (hd : o.dst = d) (hc : catOf o.op = .new) (h : dnew P o.op env = some (blk, v))
    (hk : ∀ b H', H b = none → H' b = some blk → Keep H H' → EL P N ops Q rest (put env d (v b)) H') : EL P N ops Q (o :: rest) env H := by
  subst hd; unfold EL; rw [if_pos hw, hc]; exact ⟨blk, v, h, fun b hb => hk b _ hb (upd_same _ _ _) (Keep.upd hb blk)⟩
theorem E_step (hw : Region.wanted o (yieldedE ops env) = true) (hc : catOf o.op = .step) (h : AOp P N o env H (EL P N ops Q rest)) : EL P N ops Q (o :: rest) env H := by
  unfold EL; rw [if_pos hw, hc]; exact h
theorem E_store {t e g off n : Nat} {x y : Operand} {l l' xs : List Value} {room : Nat} {yv : Value} (hw : Region.wanted o (yieldedE ops env) = true) (hdst : o.dst = none) (ho : o.op = .store t x y)
    (hx : env.ev x = .pointer (some ⟨g, off, none⟩)) (hy : env.ev y = yv) (hz : tsz P t = some n) (hH : H g = some (.cells l e true room)) (hfit : off + n ≤ l.length) (hxs : vcells yv = xs)
    (hv : (noTuple yv && decide (xs.length = n) && xs.all oneC) = true) (hl : setRange l off xs = l')
    (hk : ∀ H', H' g = some (.cells l' e true room) → KeepX (some g) H H' → EL P N ops Q rest env H') : EL P N ops Q (o :: rest) env H := by
  subst hy hxs hl
  refine E_step hw (by rw [ho]; rfl) (AOp_store ho hdst hx hz hH hfit hv (hk _ (upd_same _ _ _) (KeepX.upd _ _ _)))
theorem E_call {f : Operand} {args : Array Operand} {ts : Array TypeId} {k : FuncId} {vs : List Value} {R : Value → AH → Prop} (hw : Region.wanted o (yieldedE ops env) = true) (hd : o.dst = d) (ho : o.op = .call { callee := .value f, args := args, argTypes := ts }) (hf : f = .func k)
    (hN : dstOk N [o] = true) (hb : hasBody P k = true) (hargs : args.toList.map env.ev = vs) (h : ACalls P k vs H R) (hk : ∀ r H', R r H' → EL P N ops Q rest (put env d r) H') : EL P N ops Q (o :: rest) env H := by
  subst hd hf hargs
  refine E_step hw (by rw [ho]; rfl) (AOp_call (k := k) (first := #[]) (captured := #[]) (dstOk_head hN).1 ho rfl rfl rfl hb ?_)
  have : ([] : List Value) ++ args.toList.map env.ev ++ [] = args.toList.map env.ev := by simp
  rw [show (#[] : Array Value).toList = [] from rfl, this]
  exact h.mono hk
end

/-! ### Values of operations -/
section
variable {P : Program} {env : Env} {H : AH}
theorem dv_move {x : Operand} {v : Value} (hx : env.ev x = v) : dval P (.move x) env H = some v := by rw [← hx]; rfl
theorem dv_assign {x : Operand} {v : Value} (hx : env.ev x = v) : dval P (.assign x) env H = some v := by rw [← hx]; rfl
theorem dv_nilCheck {x : Operand} {a : Addr} (hx : env.ev x = .pointer (some a)) : dval P (.nilCheck x) env H = some (.pointer (some a)) := by simp only [dval, hx]
theorem dv_pick {c a b : Operand} {t : Bool} {v : Value} (hc : env.ev c = .bool t) (hv : (if t then env.ev a else env.ev b) = v) : dval P (.pick c a b) env H = some v := by simp only [dval, hc, hv]
theorem dv_bin {op : BinOp} {t : TypeId} {x y : Operand} {z : TypeId} {a b v : Value} (hx : env.ev x = a) (hy : env.ev y = b) (h : dbin P op t a b = some v) : dval P (.binOp op t x y z) env H = some v := by simp only [dval, hx, hy, h]
theorem dv_un {op : UnOp} {t : TypeId} {x : Operand} {a v : Value} (hx : env.ev x = a) (h : dun op a = some v) : dval P (.unOp op t x) env H = some v := by simp only [dval, hx, h]
theorem dv_conv {s t : TypeId} {x : Operand} {a v : Value} (hx : env.ev x = a) (h : dconv P s t a = some v) : dval P (.convert s t x) env H = some v := by simp only [dval, hx, h]
theorem dv_fieldAddr {t : TypeId} {i : Nat} {x : Operand} {a v : Value} (hx : env.ev x = a) (h : dfieldAddr P t i a = some v) : dval P (.fieldAddr t x i) env H = some v := by simp only [dval, hx, h]
theorem dv_field {t : TypeId} {i : Nat} {x : Operand} {a v : Value} (hx : env.ev x = a) (h : dfield P t i a = some v) : dval P (.field t x i) env H = some v := by simp only [dval, hx, h]
theorem dv_indexAddr {t : TypeId} {x i : Operand} {a b v : Value} (hx : env.ev x = a) (hi : env.ev i = b) (h : dindexAddr P t a b = some v) : dval P (.indexAddr t x i) env H = some v := by simp only [dval, hx, hi, h]
theorem dv_index {t : TypeId} {x i : Operand} {a b v : Value} (hx : env.ev x = a) (hi : env.ev i = b) (h : dindex P t a b = some v) : dval P (.index t x i) env H = some v := by simp only [dval, hx, hi, h]
theorem dv_extract {i : Nat} {x : Operand} {a v : Value} (hx : env.ev x = a) (h : dextract i a = some v) : dval P (.extract x i) env H = some v := by simp only [dval, hx, h]
theorem dv_build {t : TypeId} {parts : Array (Nat × Operand)} {vs : List (Nat × Value)} {v : Value} (hp : (parts.toList.map fun p => (p.1, env.ev p.2)) = vs) (h : dbuild P t vs = some v) : dval P (.build t parts) env H = some v := by simp only [dval, hp, h]
theorem dv_buildZ {t : TypeId} {parts : Array (Nat × Operand)} {vs : List (Nat × Value)} {zs l : List Value} {ps : List (Nat × Nat)} (hp : (parts.toList.map fun p => (p.1, env.ev p.2)) = vs) (hz : tzc P t = some zs) (hn : (tzero P t).map noTuple = some true) (hps : tplaces P t = some ps) (hvs : vs.all (fun p => noTuple p.2) = true)
    (hl : dfill (fun i => ps[i]?) zs vs = some l) : dval P (.build t parts) env H = some (.agg l.toArray) := by
  refine dv_build hp ?_
  unfold tzc at hz
  unfold dbuild
  cases hz' : tzero P t with
  | none => rw [hz'] at hz; cases hz
  | some z =>
    rw [hz'] at hz hn
    simp only [Option.map_some, Option.some.injEq] at hz hn
    simp only [hps, hvs, hn, Bool.and_self, if_true]
    rw [vcells_cv z (noTuple_ne hn), hz, hl]; rfl
theorem dfieldA {t i off ft n : Nat} {l xs : List Value} (ht : tfield P t i = some (off, ft)) (ha : tagg P ft = some true) (hz : tsz P ft = some n) (hl : (l.drop off).take n = xs) : dfield P t i (.agg l.toArray) = some (.agg xs.toArray) := by
  unfold dfield; simp only [ht]; unfold dpart; simp only [ha, hz]
  subst hl
  congr 2
  apply Array.ext'
  simp only [Array.toList_extract, List.extract_eq_take_drop, Nat.add_sub_cancel_left]
theorem dv_len {c : Go.Call} {x : Operand} {t : TypeId} {a v : Value} (h1 : c.callee = .builtin .len) (h2 : c.args.toList = [x]) (h3 : c.argTypes.toList = [t]) (hx : env.ev x = a) (h : dlen P H t a = some v) : dval P (.call c) env H = some v := by simp only [dval, h1, h2, h3, hx, h]
def PLoad (P : Program) (H : AH) (t : TypeId) (p v : Value) : Prop := ∃ a, p = .pointer (some a) ∧ dload P H t a = some v
theorem dv_load {t : TypeId} {x : Operand} {p v : Value} (hx : env.ev x = p) (h : PLoad P H t p v) : dval P (.load t x) env H = some v := by
  obtain ⟨a, rfl, h⟩ := h; simp only [dval, hx, h]
theorem ld_box {t b off e room : Nat} {own : Bool} {l : List Value} {x : Value} (hb : H b = some (.cells l e own room)) (ha : tagg P t = some false) (hl : l[off]? = some x) (ho : oneC x = true) : PLoad P H t (.pointer (some ⟨b, off, none⟩)) x := by
  refine ⟨_, rfl, ?_⟩
  unfold dload; rw [ha]; unfold rd1; simp only [hb, hl, ho, Option.bind_some, if_true]
theorem ld_boxA {t b off e room n : Nat} {own : Bool} {l xs : List Value} (hb : H b = some (.cells l e own room)) (ha : tagg P t = some true) (hz : tsz P t = some n) (hn : off + n ≤ l.length) (hl : (l.drop off).take n = xs) : PLoad P H t (.pointer (some ⟨b, off, none⟩)) (.agg xs.toArray) := by
  refine ⟨_, rfl, ?_⟩
  unfold dload; rw [ha, hz]; unfold rdN; simp only [hb, hn, and_self, if_true, hl, Option.map_some]
end

/-! ### Integers within their kind -/
section
variable {P : Program} {t : TypeId} {a b : Int}
theorem wrp64 {n : Int} (h : -9223372036854775808 ≤ n ∧ n ≤ 9223372036854775807) : IntKind.i64.wrap n = n := IntWalk.i64_in n h
theorem bi_add (h : -9223372036854775808 ≤ a + b ∧ a + b ≤ 9223372036854775807) : dbin P .add t (.int .i64 a) (.int .i64 b) = some (.int .i64 (a + b)) := by simp [dbin, dint, wrp64 h]
theorem bi_sub (h : -9223372036854775808 ≤ a - b ∧ a - b ≤ 9223372036854775807) : dbin P .sub t (.int .i64 a) (.int .i64 b) = some (.int .i64 (a - b)) := by simp [dbin, dint, wrp64 h]
theorem bi_mul (h : -9223372036854775808 ≤ a * b ∧ a * b ≤ 9223372036854775807) : dbin P .mul t (.int .i64 a) (.int .i64 b) = some (.int .i64 (a * b)) := by simp [dbin, dint, wrp64 h]
theorem bi_rem (h : b ≠ 0) : dbin P .rem t (.int .i64 a) (.int .i64 b) = some (.int .i64 (a.tmod b)) := by simp [dbin, dint, h]
theorem bi_eql : dbin P .eql t (.int .i64 a) (.int .i64 b) = some (.bool (decide (a = b))) := by simp [dbin, dint, dcmpI]; rfl
theorem bi_neq : dbin P .neq t (.int .i64 a) (.int .i64 b) = some (.bool (decide (a ≠ b))) := by simp [dbin, dint, dcmpI, bne]; by_cases h : a = b <;> simp [h]
theorem bi_lss : dbin P .lss t (.int .i64 a) (.int .i64 b) = some (.bool (decide (a < b))) := by simp [dbin, dint, dcmpI]
theorem bi_leq : dbin P .leq t (.int .i64 a) (.int .i64 b) = some (.bool (decide (a ≤ b))) := by simp [dbin, dint, dcmpI]
theorem bi_gtr : dbin P .gtr t (.int .i64 a) (.int .i64 b) = some (.bool (decide (b < a))) := by simp [dbin, dint, dcmpI]
theorem bi_geq : dbin P .geq t (.int .i64 a) (.int .i64 b) = some (.bool (decide (b ≤ a))) := by simp [dbin, dint, dcmpI]
end

/-! ### Comparisons told -/
section
variable {P : Program} {t : TypeId} {a b : Int} {k : FloatKind} {x y : Nat}
theorem bi_eql_t (h : a = b) : dbin P .eql t (.int .i64 a) (.int .i64 b) = some (.bool true) := by rw [bi_eql, decide_eq_true h]
theorem bi_eql_f (h : ¬ a = b) : dbin P .eql t (.int .i64 a) (.int .i64 b) = some (.bool false) := by rw [bi_eql, decide_eq_false h]
theorem bi_neq_t (h : a ≠ b) : dbin P .neq t (.int .i64 a) (.int .i64 b) = some (.bool true) := by rw [bi_neq, decide_eq_true h]
theorem bi_neq_f (h : ¬ a ≠ b) : dbin P .neq t (.int .i64 a) (.int .i64 b) = some (.bool false) := by rw [bi_neq, decide_eq_false h]
theorem bi_lss_t (h : a < b) : dbin P .lss t (.int .i64 a) (.int .i64 b) = some (.bool true) := by rw [bi_lss, decide_eq_true h]
theorem bi_lss_f (h : ¬ a < b) : dbin P .lss t (.int .i64 a) (.int .i64 b) = some (.bool false) := by rw [bi_lss, decide_eq_false h]
theorem bi_leq_t (h : a ≤ b) : dbin P .leq t (.int .i64 a) (.int .i64 b) = some (.bool true) := by rw [bi_leq, decide_eq_true h]
theorem bi_leq_f (h : ¬ a ≤ b) : dbin P .leq t (.int .i64 a) (.int .i64 b) = some (.bool false) := by rw [bi_leq, decide_eq_false h]
theorem bi_gtr_t (h : b < a) : dbin P .gtr t (.int .i64 a) (.int .i64 b) = some (.bool true) := by rw [bi_gtr, decide_eq_true h]
theorem bi_gtr_f (h : ¬ b < a) : dbin P .gtr t (.int .i64 a) (.int .i64 b) = some (.bool false) := by rw [bi_gtr, decide_eq_false h]
theorem bi_geq_t (h : b ≤ a) : dbin P .geq t (.int .i64 a) (.int .i64 b) = some (.bool true) := by rw [bi_geq, decide_eq_true h]
theorem bi_geq_f (h : ¬ b ≤ a) : dbin P .geq t (.int .i64 a) (.int .i64 b) = some (.bool false) := by rw [bi_geq, decide_eq_false h]
/-- Comparisons of floats, as they are told. -/
def feq (k : FloatKind) (x y : Nat) : Bool := k.format.order x y == some .eq
def flt (k : FloatKind) (x y : Nat) : Bool := k.format.order x y == some .lt
def fgt (k : FloatKind) (x y : Nat) : Bool := k.format.order x y == some .gt
def fle (k : FloatKind) (x y : Nat) : Bool := flt k x y || feq k x y
def fge (k : FloatKind) (x y : Nat) : Bool := fgt k x y || feq k x y
theorem bf_eql : dbin P .eql t (.float k x) (.float k y) = some (.bool (feq k x y)) := (if_pos rfl : (if k = k then _ else _) = _)
theorem bf_neq : dbin P .neq t (.float k x) (.float k y) = some (.bool (!feq k x y)) := (if_pos rfl : (if k = k then _ else _) = _)
theorem bf_lss : dbin P .lss t (.float k x) (.float k y) = some (.bool (flt k x y)) := (if_pos rfl : (if k = k then _ else _) = _)
theorem bf_leq : dbin P .leq t (.float k x) (.float k y) = some (.bool (fle k x y)) := (if_pos rfl : (if k = k then _ else _) = _)
theorem bf_gtr : dbin P .gtr t (.float k x) (.float k y) = some (.bool (fgt k x y)) := (if_pos rfl : (if k = k then _ else _) = _)
theorem bf_geq : dbin P .geq t (.float k x) (.float k y) = some (.bool (fge k x y)) := (if_pos rfl : (if k = k then _ else _) = _)
/-- A truth value by what it is known to be. -/
theorem isB {s : Option Value} {e v : Bool} (h : s = some (.bool e)) (hv : e = v) : s = some (.bool v) := by rw [h, hv]
end

/-! ### Results -/
theorem ret_of {P : Program} {fn : Func} {N : Nat} {R : Value → AH → Prop} {env : Env} {H : AH} (h : readsRes P fn N env H R) : retE P fn N R .ret env H := h
theorem ret_of' {P : Program} {fn : Func} {N : Nat} {R : Value → AH → Prop} {env : Env} {H : AH} (h : readsRes P fn N env H R) : retE P fn N R .normal env H := h
section
variable {K : Env → AH → Prop} {Q : Exit → Env → AH → Prop} {env : Env} {H : AH} {id id' : Nat}
theorem th_ret (h : Q .ret env H) : thenE K Q .ret env H := h
theorem th_exit (h : Q (.exit id) env H) : thenE K Q (.exit id) env H := h
theorem th_norm (h : K env H) : thenE K Q .normal env H := h
theorem bl_ret (h : Q .ret env H) : blockE id Q .ret env H := h
theorem bl_norm (h : Q .normal env H) : blockE id Q .normal env H := h
theorem bl_exit (h : Q .normal env H) : blockE id Q (.exit id) env H := by
  have e : blockE id Q (.exit id) env H = (if id = id then Q .normal env H else Q (.exit id) env H) := rfl
  rw [e, if_pos rfl]; exact h
theorem bl_exit' (hn : (id' == id) = false) (h : Q (.exit id') env H) : blockE id Q (.exit id') env H := by
  have e : blockE id Q (.exit id') env H = (if id' = id then Q .normal env H else Q (.exit id') env H) := rfl
  rw [e, if_neg (by simpa using hn)]; exact h
end
theorem loop_next {I : Nat → Env → AH → Prop} {n : Nat} {env : Env} {H : AH} (m : Nat) (hm : m < n) (h : I m env H) : ∃ m, m < n ∧ I m env H := ⟨m, hm, h⟩
section
variable {P : Program} {env : Env} {H : AH}
theorem re_tmp {t : Nat} {v : Value} (h : env t = v) : dresult P env H (.tmp t) = some v := by rw [← h]; rfl
theorem re_cell {t b : Nat} {p v : Value} (h : env b = p) (hl : PLoad P H t p v) : dresult P env H (.cell b t) = some v := by
  obtain ⟨a, rfl, hl⟩ := hl; simp only [dresult, h, hl]
theorem re_nil : dresults P [] env H = some [] := rfl
theorem re_cons {x : ResultVar} {v : Value} {rs : List ResultVar} {vs : List Value} (h : dresult P env H x = some v) (hr : dresults P rs env H = some vs) : dresults P (x :: rs) env H = some (v :: vs) := by
  unfold dresults at *; rw [List.mapM_cons, h, hr]; rfl
end

/-! ### A region that draws, in which no block of before is changed but by a last store -/
section
variable {P : Program} {N : Nat} {ops : Array Oper} {Inv : AH → Prop} {Q : Env → AH → Prop} {o : Oper} {rest : List Oper} {env : Env} {H : AH} {d : Option Tmp}
theorem keeps_nil (H : AH) : keeps H [] = Keep H := by
  funext Hc; apply propext
  exact ⟨fun h c blk hc => h c blk (by simp) hc, fun h c blk _ hc => h c blk hc⟩
theorem AWp_W {l : List Oper} {id : Nat} {Qx : Exit → Env → AH → Prop} (hm : P.follows .mixedOrders = true) (hB : (drawB l && dstOk N l && noSel l) = true) (h : LW P N l.toArray (Keep H) (Qx .normal) l env H) : AWp P N (.region id l.toArray true) Qx env H := by
  simp only [Bool.and_eq_true] at hB
  exact AWp_draw [] hm hB.1.1 hB.1.2 hB.2 (by rw [keeps_nil]; exact h)
theorem keeps_opt (H : AH) (x : Option Nat) : keeps H x.toList = KeepX x H := by
  funext Hc; apply propext
  exact ⟨fun h c blk hx hc => h c blk (by cases x <;> simp_all) hc, fun h c blk hx hc => h c blk (by cases x <;> simp_all) hc⟩
/-- The same, in which one block may change. -/
theorem AWp_X (x : Option Nat) {l : List Oper} {id : Nat} {Qx : Exit → Env → AH → Prop} (hm : P.follows .mixedOrders = true) (hB : (drawB l && dstOk N l && noSel l) = true) (h : LW P N l.toArray (KeepX x H) (Qx .normal) l env H) : AWp P N (.region id l.toArray true) Qx env H := by
  simp only [Bool.and_eq_true] at hB
  exact AWp_draw x.toList hm hB.1.1 hB.1.2 hB.2 (by rw [keeps_opt]; exact h)
theorem W_nil (h : Q env H) : LW P N ops Inv Q [] env H := h
theorem W_det {v : Value} (hw : Region.wanted o (yieldedE ops env) = true) (hd : o.dst = d) (hc : catOf o.op = .det) (h : ∀ Hc, Inv Hc → dval P o.op env Hc = some v) (hk : LW P N ops Inv Q rest (put env d v) H) : LW P N ops Inv Q (o :: rest) env H := by
  subst hd; rw [LW_det hc hw]; exact ⟨v, h, hk⟩
theorem W_skip (hw : Region.wanted o (yieldedE ops env) = false) (hd : o.dst = d) (hk : LW P N ops Inv Q rest (put env d undef) H) : LW P N ops Inv Q (o :: rest) env H := by
  subst hd; unfold LW; rw [if_neg (by rw [hw]; decide)]; exact hk
theorem W_new {blk : Blk} {v : Nat → Value} (hw : Region.wanted o (yieldedE ops env) = true) (hd : o.dst = d) (hc : catOf o.op = .new) (h : dnew P o.op env = some (blk, v))
    (hk : ∀ b H', H b = none → H' b = some blk → Keep H H' → LW P N ops Inv Q rest (put env d (v b)) H') : LW P N ops Inv Q (o :: rest) env H := by
  subst hd; rw [LW_new hc hw]; exact ⟨blk, v, h, fun b hb => hk b _ hb (upd_same _ _ _) (Keep.upd hb blk)⟩
theorem W_step (hw : Region.wanted o (yieldedE ops env) = true) (hc : catOf o.op = .step) (h : AOp P N o env H fun env' H' => ((rest = [] ∧ isStore o.op = true) ∨ Inv H') ∧ LW P N ops Inv Q rest env' H') : LW P N ops Inv Q (o :: rest) env H := by
  unfold LW; rw [if_pos hw, hc]; exact h
theorem W_store {t e g off n : Nat} {x y : Operand} {l l' xs : List Value} {room : Nat} {yv : Value} (hw : Region.wanted o (yieldedE ops env) = true) (hdst : o.dst = none) (ho : o.op = .store t x y) (hrest : rest = [])
    (hx : env.ev x = .pointer (some ⟨g, off, none⟩)) (hy : env.ev y = yv) (hz : tsz P t = some n) (hH : H g = some (.cells l e true room)) (hfit : off + n ≤ l.length) (hxs : vcells yv = xs)
    (hv : (noTuple yv && decide (xs.length = n) && xs.all oneC) = true) (hl : setRange l off xs = l')
    (hk : ∀ H', H' g = some (.cells l' e true room) → KeepX (some g) H H' → Q env H') : LW P N ops Inv Q (o :: rest) env H := by
  subst hy hxs hl hrest
  refine W_step hw (by rw [ho]; rfl) (AOp_store ho hdst hx hz hH hfit hv ⟨.inl ⟨rfl, by rw [ho]; rfl⟩, hk _ (upd_same _ _ _) (KeepX.upd _ _ _)⟩)
theorem W_call {f : Operand} {args : Array Operand} {ts : Array TypeId} {k : FuncId} {vs : List Value} {R : Value → AH → Prop} (hw : Region.wanted o (yieldedE ops env) = true) (hd : o.dst = d) (ho : o.op = .call { callee := .value f, args := args, argTypes := ts }) (hf : f = .func k)
    (hN : dstOk N [o] = true) (hb : hasBody P k = true) (hargs : args.toList.map env.ev = vs) (h : ACalls P k vs H R) (hk : ∀ r H', R r H' → Inv H' ∧ LW P N ops Inv Q rest (put env d r) H') : LW P N ops Inv Q (o :: rest) env H := by
  subst hd hf hargs
  refine W_step hw (by rw [ho]; rfl) (AOp_call (k := k) (first := #[]) (captured := #[]) (dstOk_head hN).1 ho rfl rfl rfl hb ?_)
  have : ([] : List Value) ++ args.toList.map env.ev ++ [] = args.toList.map env.ev := by simp
  rw [show (#[] : Array Value).toList = [] from rfl, this]
  exact h.mono fun r H' hR => ⟨.inr (hk r H' hR).1, (hk r H' hR).2⟩
end

/-! ### Loops: what is known of the frame -/
def AllE : List (Nat × Value) → Env → Prop
  | [], _ => True
  | (t, v) :: l, env => env t = v ∧ AllE l env
def puts (env : Env) : List (Nat × Value) → Env
  | [] => env
  | (t, v) :: l => put (puts env l) (some t) v
theorem all_n {env : Env} : AllE [] env := trivial
theorem all_c {t : Nat} {v : Value} {l : List (Nat × Value)} {env : Env} (h : env t = v) (r : AllE l env) : AllE ((t, v) :: l) env := ⟨h, r⟩
theorem puts_of : ∀ (l : List (Nat × Value)) (env : Env), AllE l env → puts env l = env
  | [], _, _ => rfl
  | (t, v) :: l, env, h => by
    rw [puts, puts_of l env h.2]
    funext i
    simp only [put, upd]
    by_cases hi : i = t
    · subst hi; rw [if_pos rfl, h.1]
    · rw [if_neg hi]
theorem AllE.ex {l : List (Nat × Value)} {env : Env} (h : AllE l env) : ∃ e, env = puts e l := ⟨env, (puts_of l env h).symm⟩
end Go.Ab

namespace Go.Ab
/-- A place in a slice's row. -/
def sp (a : Option Addr) (k : Nat) : Value := match a with
  | some ad => .pointer (some (ad.add k))
  | none => undef
/-- The slice that begins at 'a' has the elements xs. -/
def Sls {α : Type} (H : AH) (enc : α → List Value) (a : Option Addr) (xs : List α) : Prop :=
  xs = [] ∨ ∃ b off A C e own room, a = some ⟨b, off, none⟩ ∧ H b = some (.cells (A ++ xs.flatMap enc ++ C) e own room) ∧ A.length = off
theorem Sls.keep {α : Type} {H H' : AH} {enc : α → List Value} {a : Option Addr} {xs : List α} (h : Sls H enc a xs) (k : Keep H H') : Sls H' enc a xs := by
  rcases h with h | ⟨b, off, A, C, e, own, room, h1, h2, h3⟩
  · exact .inl h
  · exact .inr ⟨b, off, A, C, e, own, room, h1, k _ _ h2, h3⟩
theorem Sls.nil {α : Type} {H : AH} {enc : α → List Value} {a : Option Addr} : Sls H enc a [] := .inl rfl
theorem get_el {α : Type} {xs : List α} {i : Nat} (h : i < xs.length) : ∃ x, xs[i]? = some x := ⟨xs[i], List.getElem?_eq_getElem h⟩
theorem get_lt {α : Type} {xs : List α} {i : Nat} {x : α} (h : xs[i]? = some x) : i < xs.length := (List.getElem?_eq_some_iff.1 h).1
theorem split_at {α : Type} : ∀ (xs : List α) (i : Nat) (x : α), xs[i]? = some x → ∃ ys zs, xs = ys ++ x :: zs ∧ ys.length = i
  | [], i, x, h => by simp at h
  | y :: xs, 0, x, h => by simp at h; subst h; exact ⟨[], xs, rfl, rfl⟩
  | y :: xs, i + 1, x, h => by
    obtain ⟨ys, zs, h1, h2⟩ := split_at xs i x (by simpa using h)
    exact ⟨y :: ys, zs, by rw [h1]; rfl, by simp [h2]⟩
theorem flat_len {α : Type} {enc : α → List Value} {sz : Nat} (hsz : ∀ x, (enc x).length = sz) : ∀ xs : List α, (xs.flatMap enc).length = xs.length * sz
  | [] => by simp
  | x :: xs => by rw [List.flatMap_cons, List.length_append, hsz, flat_len hsz xs, List.length_cons, Nat.succ_mul]; omega
theorem Sls.at {α : Type} {H : AH} {enc : α → List Value} {a : Option Addr} {xs : List α} {i sz : Nat} {x : α} (h : Sls H enc a xs) (hx : xs[i]? = some x) (hsz : ∀ x, (enc x).length = sz) :
    ∃ b off A C e own room, a = some ⟨b, off, none⟩ ∧ H b = some (.cells (A ++ enc x ++ C) e own room) ∧ A.length = off + i * sz := by
  rcases h with h | ⟨b, off, A, C, e, own, room, h1, h2, h3⟩
  · subst h; simp at hx
  · obtain ⟨ys, zs, hxs, hys⟩ := split_at xs i x hx
    refine ⟨b, off, A ++ ys.flatMap enc, zs.flatMap enc ++ C, e, own, room, h1, ?_, ?_⟩
    · rw [h2, hxs, List.flatMap_append, List.flatMap_cons]; simp only [List.append_assoc]
    · rw [List.length_append, flat_len hsz, h3, hys]
section
variable {α : Type} {P : Program} {H : AH} {enc : α → List Value} {a : Option Addr} {xs : List α} {i sz : Nat} {x : α}
theorem ix_sls {t e n c : Nat} {k : IntKind} {p : Int} (h : Sls H enc a xs) (hx : xs[i]? = some x) (ht : tslice P t = some e) (hz : tsz P e = some sz) (hp : p = (i : Int)) (hn : i < n) : dindexAddr P t (.slice a n c) (.int k p) = some (sp a (i * sz)) := by
  rcases h with h | ⟨b, off, A, C, e', own, room, h1, _⟩
  · subst h; simp at hx
  · subst h1 hp
    have : (0 : Int) ≤ (i : Int) ∧ (i : Int) < (n : Int) := by omega
    simp only [dindexAddr, ht, if_pos this, hz, Option.map_some, Int.toNat_natCast, sp]
theorem fa_sls {t f off ft m k : Nat} (h : Sls H enc a xs) (hx : xs[i]? = some x) (ht : tfield P t f = some (off, ft)) (hz : tsz P ft = some (m + 1)) : dfieldAddr P t f (sp a k) = some (sp a (k + off)) := by
  rcases h with h | ⟨b, o, A, C, e', own, room, h1, _⟩
  · subst h; simp at hx
  · subst h1; simp only [sp, dfieldAddr, ht, hz, addr_add, Nat.add_assoc]
theorem ld_sls {t off : Nat} {v : Value} (h : Sls H enc a xs) (hx : xs[i]? = some x) (hsz : ∀ x, (enc x).length = sz) (ha : tagg P t = some false) (hv : (enc x)[off]? = some v) (ho : oneC v = true) : PLoad P H t (sp a (i * sz + off)) v := by
  obtain ⟨b, o, A, C, e, own, room, rfl, hb, hA⟩ := h.at hx hsz
  refine ⟨_, rfl, ?_⟩
  have hlt := get_lt hv
  unfold dload; rw [ha]; unfold rd1
  simp only [addr_add, hb, if_true]
  rw [List.append_assoc, List.getElem?_append_right (by omega), List.getElem?_append_left (by omega), show o + (i * sz + off) - A.length = off by omega, hv]
  simp only [Option.bind_some, ho, if_true]
theorem ld_slsA {t off m : Nat} {ys : List Value} (h : Sls H enc a xs) (hx : xs[i]? = some x) (hsz : ∀ x, (enc x).length = sz) (ha : tagg P t = some true) (hz : tsz P t = some m) (hm : off + m ≤ sz) (hv : ((enc x).drop off).take m = ys) : PLoad P H t (sp a (i * sz + off)) (.agg ys.toArray) := by
  obtain ⟨b, o, A, C, e, own, room, rfl, hb, hA⟩ := h.at hx hsz
  refine ⟨_, rfl, ?_⟩
  have hl := hsz x
  have hd : (List.drop (o + (i * sz + off)) (A ++ enc x ++ C)).take m = ys := by
    rw [List.append_assoc, show o + (i * sz + off) = A.length + off by omega, ← List.drop_drop, List.drop_left, List.drop_append_of_le_length (by omega), List.take_append_of_le_length (by rw [List.length_drop]; omega), hv]
  unfold dload; rw [ha, hz]; unfold rdN
  simp only [addr_add, hb]
  rw [if_pos ⟨trivial, by simp only [List.length_append]; omega⟩, hd]; rfl
end
end Go.Ab

namespace Go.Ab
def blockS (a : Option Addr) : Option Nat := a.map (·.block)
def FreshS (H : AH) (a : Option Addr) : Prop := ∀ b, blockS a = some b → H b = none
/-- One's own slice with the elements xs. -/
def Ows {α : Type} (H : AH) (enc : α → List Value) (e sz : Nat) (a : Option Addr) (c : Nat) (xs : List α) : Prop :=
  OwnL H (.slice a xs.length c) e sz xs.length (xs.flatMap enc)
section
variable {α : Type} {H H' : AH} {enc : α → List Value} {e sz c : Nat} {a : Option Addr} {xs : List α}
theorem Ows.cases (h : Ows H enc e sz a c xs) : (a = none ∧ xs = [] ∧ c = 0) ∨ ∃ b, a = some ⟨b, 0, none⟩ ∧ H b = some (.cells (xs.flatMap enc) e true (c * sz)) ∧ xs.length ≤ c ∧ c ≤ maxLen := by
  rcases h.2 with ⟨h1, h2⟩ | ⟨b, cap, h1, h2, h3, h4⟩
  · injection h1 with h1 h3 h4; exact .inl ⟨h1, List.length_eq_zero_iff.1 h2, h4⟩
  · injection h1 with h1 _ h5; subst h1 h5; exact .inr ⟨b, rfl, h2, h3, h4⟩
theorem Ows.mk' {b : Nat} (hl : (xs.flatMap enc).length = xs.length * sz) (hb : H b = some (.cells (xs.flatMap enc) e true (c * sz))) (hc : xs.length ≤ c) (hm : c ≤ maxLen) : Ows H enc e sz (some ⟨b, 0, none⟩) c xs :=
  ⟨hl, .inr ⟨b, c, rfl, hb, hc, hm⟩⟩
theorem Ows.sls (h : Ows H enc e sz a c xs) : Sls H enc a xs := by
  rcases h.cases with ⟨_, h, _⟩ | ⟨b, h1, h2, _⟩
  · exact .inl h
  · exact .inr ⟨b, 0, [], [], e, true, c * sz, h1, by rw [h2]; simp, rfl⟩
theorem Ows.keepX {x : Option Nat} (h : Ows H enc e sz a c xs) (k : KeepX x H H') (hn : ∀ b, blockS a = some b → some b ≠ x) : Ows H' enc e sz a c xs := by
  refine ⟨h.1, ?_⟩
  rcases h.2 with h2 | ⟨b, cap, h1, h2, h3⟩
  · exact .inl h2
  · refine .inr ⟨b, cap, h1, k _ _ (hn b ?_) h2, h3⟩
    injection h1 with h1; rw [h1]; rfl
theorem Ows.keep (h : Ows H enc e sz a c xs) (k : Keep H H') : Ows H' enc e sz a c xs := h.keepX (x := none) (fun c blk _ hc => k c blk hc) (by simp)
theorem Ows.ne_box {b ty room : Nat} {l : List Value} {o : Bool} (h : Ows H enc e sz a c xs) (hb : H b = some (.cells l ty o room)) (hne : (ty == e) = false) : some b ≠ blockS a := by
  rcases h.cases with ⟨h1, _⟩ | ⟨b', h1, h2, _⟩
  · subst h1; simp [blockS]
  · subst h1
    exact some_ne (ne_type hb h2 hne)
theorem Ows.ne_box' {b ty room : Nat} {l : List Value} {o : Bool} (h : Ows H enc e sz a c xs) (hb : H b = some (.cells l ty o room)) (hne : (ty == e) = false) : ∀ b', blockS a = some b' → some b' ≠ some b := fun _ hb' => hb' ▸ Ne.symm (h.ne_box hb hne)
theorem Ows.ne_new {b : Nat} (h : Ows H enc e sz a c xs) (hn : H b = none) : ∀ b', blockS a = some b' → some b' ≠ some b := fun b' hb' he => by
  rcases h.cases with ⟨h1, _⟩ | ⟨b2, h1, h2, _⟩
  · subst h1; simp [blockS] at hb'
  · subst h1; simp only [blockS, Option.map_some, Option.some.injEq] at hb' he
    subst hb' he; rw [hn] at h2; cases h2
theorem Ows.ne_ows {β : Type} {enc' : β → List Value} {e' sz' c' : Nat} {a' : Option Addr} {ys : List β} (h : Ows H enc e sz a c xs) (h' : Ows H enc' e' sz' a' c' ys) (hne : (e' == e) = false) : ∀ b, blockS a' = some b → some b ≠ blockS a := by
  intro b hb
  rcases h'.cases with ⟨h1, _⟩ | ⟨b', h1, h2, _⟩
  · subst h1; simp [blockS] at hb
  · subst h1; simp only [blockS, Option.map_some, Option.some.injEq] at hb; subst hb
    exact h.ne_box h2 hne
end
theorem Keep.transXS {H H1 H2 : AH} {a : Option Addr} (k : Keep H H1) (hf : FreshS H a) (x : KeepX (blockS a) H1 H2) : Keep H H2 := fun c blk h => x c blk (fun e => by rw [hf c e.symm] at h; cases h) (k c blk h)
theorem freshS_none (H : AH) : FreshS H none := fun b h => by simp [blockS] at h
theorem freshS {H : AH} {b : Nat} (h : H b = none) : FreshS H (some ⟨b, 0, none⟩) := fun b' h' => by simp only [blockS, Option.map_some, Option.some.injEq] at h'; rw [← h']; exact h

/-! ### Rules -/
section
variable {P : Program} {N : Nat} {ops : Array Oper} {Q : Exit → Env → AH → Prop} {o : Oper} {rest : List Oper} {env : Env} {H : AH} {d : Option Tmp}
theorem E_ext {f : Operand} {args : Array Operand} {ts : Array TypeId} {k : FuncId} {vs : List Value} {v : Value} (hw : Region.wanted o (yieldedE ops env) = true) (hd : o.dst = d) (ho : o.op = .call { callee := .value f, args := args, argTypes := ts }) (hf : f = .func k)
    (hN : dstOk N [o] = true) (hargs : args.toList.map env.ev = vs) (h : AExt P k vs v) (hk : EL P N ops Q rest (put env d v) H) : EL P N ops Q (o :: rest) env H := by
  subst hd hf hargs
  exact E_step hw (by rw [ho]; rfl) (AOp_ext (dstOk_head hN).1 ho h hk)
theorem Ows_nil {α : Type} {enc : α → List Value} {e sz : Nat} : Ows H enc e sz none 0 ([] : List α) := ⟨by simp, .inl ⟨rfl, rfl⟩⟩
end
section
variable {α : Type} {P : Program} {N : Nat} {ops : Array Oper} {Q : Exit → Env → AH → Prop} {o : Oper} {rest : List Oper} {env : Env} {H : AH} {d : Option Tmp} {enc : α → List Value}
theorem dn_make {t e z nb : Nat} {x y : Operand} {n : Nat} {zs : List Value} {k k' : IntKind} (ht : tslice P t = some e) (hz : tsz P e = some z) (hzc : tzc P e = some zs) (hzl : zs.length = z) (hby : tbytes P e = some nb)
    (hx : env.ev x = .int k (n : Int)) (hy : env.ev y = .int k' (n : Int)) (hb : nb * n ≤ 281474976710656) (hn : n ≤ 9223372036854775807) :
    dnew P (.makeSlice t x y) env = some (.cells (List.replicate n zs).flatten e true (n * z), fun b => .slice (some ⟨b, 0, none⟩) n n) := by
  simp only [dnew, ht, hz, hzc, hby, hx, hy, Int.toNat_natCast]
  rw [if_pos ⟨by omega, trivial, hzl, hb, hn⟩]
theorem Ows_make {e sz n b : Nat} {z : α} {zs : List Value} (hb : H b = some (.cells (List.replicate n zs).flatten e true (n * sz))) (hz : enc z = zs) (hl : zs.length = sz) (hm : n ≤ maxLen) : Ows H enc e sz (some ⟨b, 0, none⟩) n (List.replicate n z) := by
  have hf : ∀ n, (List.replicate n z).flatMap enc = (List.replicate n zs).flatten := by
    intro n
    induction n with
    | zero => rfl
    | succ n ih => rw [List.replicate_succ, List.replicate_succ, List.flatMap_cons, List.flatten_cons, ih, hz]
  refine Ows.mk' ?_ (by rw [hf]; exact hb) (by simp) hm
  rw [hf]; subst hl
  simp [List.length_flatten]
theorem Ows_lit {e sz n b : Nat} {xs : List α} {l : List Value} (hb : H b = some (.cells l e true (n * sz))) (hl : xs.flatMap enc = l) (hn : xs.length = n) (hsz : l.length = n * sz) (hm : n ≤ maxLen) : Ows H enc e sz (some ⟨b, 0, none⟩) n xs := by
  subst hl hn; exact Ows.mk' hsz hb (Nat.le_refl _) hm
theorem rdN_sls {a : Option Addr} {ad : Addr} {xs : List α} {sz : Nat} (h : Sls H enc a xs) (ha : a = some ad) (hne : xs ≠ []) (hsz : ∀ x, (enc x).length = sz) : rdN H ad (xs.length * sz) = some (xs.flatMap enc) := by
  rcases h with h | ⟨b, off, A, C, e, own, room, h1, h2, h3⟩
  · exact absurd h hne
  · rw [h1] at ha; injection ha with ha; subst ha
    unfold rdN
    simp only [h2]
    have hl := flat_len hsz xs
    rw [if_pos ⟨trivial, by simp only [List.length_append]; omega⟩, List.append_assoc, ← h3, List.drop_left, ← hl, List.take_left]
theorem append_AOp {K : Env → AH → Prop} {t e sz bytes c c2 : Nat} {a a2 : Option Addr} {s x : Operand} {xs ys : List α} (hN : dstOk N [o] = true)
    (ho : o.op = .call { callee := .builtin .append, args := #[s, x], argTypes := #[t, t] }) (ht : tslice P t = some e) (hz : tsz P e = some sz) (hzz : (tzc P e).map (·.length) = some sz) (hb : tbytes P e = some bytes) (hpos : (0 < sz)) (hsz : ∀ x, (enc x).length = sz) (hone : ∀ x, (enc x).all oneC = true)
    (hs : env.ev s = .slice a xs.length c) (hx : env.ev x = .slice a2 ys.length c2) (hown : Ows H enc e sz a c xs) (hsl : Sls H enc a2 ys) (hne : ys ≠ []) (hbytes : (xs.length + ys.length) * bytes ≤ 140737488355328) (h63 : xs.length + ys.length ≤ 9223372036854775807)
    (hk : ∀ a' c' H', Ows H' enc e sz a' c' (xs ++ ys) → KeepX (blockS a) H H' → (∀ b, blockS a' = some b → some b = blockS a ∨ H b = none) → K (put env o.dst (.slice a' (xs ++ ys).length c')) H') : AOp P N o env H K := by
  obtain ⟨ad, had⟩ : ∃ ad, a2 = some ad := by
    rcases hsl with h | ⟨b, off, A, C, e', own, room, h1, _⟩
    · exact absurd h hne
    · exact ⟨_, h1⟩
  have hnews := rdN_sls hsl had hne hsz
  subst had
  have hbo : ∀ (a : Option Addr) n c, blockOf (.slice a n c) = blockS a := fun a n c => by cases a <;> rfl
  refine AOp_append (dstOk_head hN).1 ho ht hz hzz hb hpos hs hown hx hnews ?_ h63 hbytes ?_
  · rw [List.all_flatMap, List.all_eq_true]; exact fun y _ => hone y
  · intro s' H' h1 h2 h3 _
    rw [hbo] at h2 h3
    have hs' : ∃ a' c', s' = .slice a' (xs ++ ys).length c' := by
      rw [List.length_append]
      rcases h1.2 with ⟨h, hn⟩ | ⟨b, cap, h, _⟩
      · exact ⟨none, 0, by rw [h, hn]⟩
      · exact ⟨_, _, h⟩
    obtain ⟨a', c', rfl⟩ := hs'
    rw [hbo] at h2 h3
    refine hk a' c' H' ?_ ?_ h3
    · unfold Ows; rw [List.flatMap_append, List.length_append] at *; exact h1
    · intro b blk hb1 hb2
      rw [h2 b hb1 ?_]; · exact hb2
      · intro he
        rcases h3 b he.symm with h | h
        · exact hb1 h
        · rw [h] at hb2; cases hb2
theorem AOp_append0 {t e size c n cap : Nat} {p a2 : Option Addr} {s x : Operand} {K : Env → AH → Prop} (hd : ∀ d, o.dst = some d → d < N)
    (ho : o.op = .call { callee := .builtin .append, args := #[s, x], argTypes := #[t, t] }) (ht : tslice P t = some e) (hz : tsz P e = some size) (hs : env.ev s = .slice p n cap) (hn : n ≤ cap) (hx : env.ev x = .slice a2 0 c)
    (hk : K (put env o.dst (.slice p n cap)) H) : AOp P N o env H K := by
  intro a w r
  have hρ : ∀ z, cv (a.eval z) = env.ev z := fun z => by rw [← ev_envOf, r.env]
  have hs' : a.eval s = .slice p n cap := cv_plain ((hρ s).trans hs) rfl
  have hx' : a.eval x = .slice a2 0 c := cv_plain ((hρ x).trans hx) rfl
  have hr1 : (Builtin.append_ #[t, t] o.type #[.slice p n cap, .slice a2 0 c]).run P w = .ok (.slice p n cap) w := by
    unfold tsz at hz
    cases hi : P.info? e with
    | none => rw [hi] at hz; cases hz
    | some i => cases p <;> cases a2 <;> simp [Builtin.append_, run_underlying (tslice_u ht), sizeOf, typeInfo, hi, Builtin.lenOf, Builtin.firstCells, loadCells, loadCellsFrom, hn, storeCells]
  have hrun : (execOp a.eval o).run P w = .ok (.value (.slice p n cap)) w := by
    unfold execOp
    simp only [ho, resolve, invoke, builtin, Sem.run_bind, Sem.run_pure, Result.andThen_ok, List.map_toArray, List.map_cons, List.map_nil, hs', hx', hr1]
  unfold Oper.wp
  rw [hrun]
  have rel := r.put hd (.slice p n cap)
  rw [cv_slice] at rel
  exact ⟨_, H, hk, ⟨rel.env, rel.size, rel.defers, r.hr⟩, L.refl _ _⟩
theorem Ows.len_cap {e sz c : Nat} {a : Option Addr} {xs : List α} (h : Ows H enc e sz a c xs) : xs.length ≤ c := by
  rcases h.cases with ⟨_, h2, h3⟩ | ⟨b, _, _, h3, _⟩
  · rw [h2, h3]; exact Nat.le_refl _
  · exact h3
/-- Append of any slice. -/
theorem appendS_AOp {K : Env → AH → Prop} {t e sz bytes c c2 : Nat} {a a2 : Option Addr} {s x : Operand} {xs ys : List α} (hN : dstOk N [o] = true)
    (ho : o.op = .call { callee := .builtin .append, args := #[s, x], argTypes := #[t, t] }) (ht : tslice P t = some e) (hz : tsz P e = some sz) (hzz : (tzc P e).map (·.length) = some sz) (hb : tbytes P e = some bytes) (hpos : (0 < sz)) (hsz : ∀ x, (enc x).length = sz) (hone : ∀ x, (enc x).all oneC = true)
    (hs : env.ev s = .slice a xs.length c) (hx : env.ev x = .slice a2 ys.length c2) (hown : Ows H enc e sz a c xs) (hsl : Sls H enc a2 ys) (hbytes : (xs.length + ys.length) * bytes ≤ 140737488355328) (h63 : xs.length + ys.length ≤ 9223372036854775807)
    (hk : ∀ a' c' H', Ows H' enc e sz a' c' (xs ++ ys) → KeepX (blockS a) H H' → (∀ b, blockS a' = some b → some b = blockS a ∨ H b = none) → K (put env o.dst (.slice a' (xs ++ ys).length c')) H') : AOp P N o env H K := by
  by_cases hne : ys = []
  · subst hne
    refine AOp_append0 (dstOk_head hN).1 ho ht hz hs hown.len_cap hx ?_
    have := hk a c H (by rw [List.append_nil]; exact hown) (fun _ _ _ h => h) (fun b hb => .inl hb.symm)
    rw [List.append_nil] at this
    exact this
  · exact append_AOp hN ho ht hz hzz hb hpos hsz hone hs hx hown hsl hne hbytes h63 hk
theorem E_appendS {t e sz bytes c c2 : Nat} {a a2 : Option Addr} {s x : Operand} {xs ys : List α} (hw : Region.wanted o (yieldedE ops env) = true) (hd : o.dst = d) (hN : dstOk N [o] = true)
    (ho : o.op = .call { callee := .builtin .append, args := #[s, x], argTypes := #[t, t] }) (ht : tslice P t = some e) (hz : tsz P e = some sz) (hzz : (tzc P e).map (·.length) = some sz) (hb : tbytes P e = some bytes) (hpos : (0 < sz)) (hsz : ∀ x, (enc x).length = sz) (hone : ∀ x, (enc x).all oneC = true)
    (hs : env.ev s = .slice a xs.length c) (hx : env.ev x = .slice a2 ys.length c2) (hown : Ows H enc e sz a c xs) (hsl : Sls H enc a2 ys) (hbytes : (xs.length + ys.length) * bytes ≤ 140737488355328) (h63 : xs.length + ys.length ≤ 9223372036854775807)
    (hk : ∀ a' c' H', Ows H' enc e sz a' c' (xs ++ ys) → KeepX (blockS a) H H' → (∀ b, blockS a' = some b → some b = blockS a ∨ H b = none) → EL P N ops Q rest (put env d (.slice a' (xs ++ ys).length c')) H') : EL P N ops Q (o :: rest) env H := by
  subst hd
  exact E_step hw (by rw [ho]; rfl) (appendS_AOp hN ho ht hz hzz hb hpos hsz hone hs hx hown hsl hbytes h63 hk)
theorem W_appendS {Inv : AH → Prop} {QW : Env → AH → Prop} {t e sz bytes c c2 : Nat} {a a2 : Option Addr} {s x : Operand} {xs ys : List α} (hw : Region.wanted o (yieldedE ops env) = true) (hd : o.dst = d) (hN : dstOk N [o] = true)
    (ho : o.op = .call { callee := .builtin .append, args := #[s, x], argTypes := #[t, t] }) (ht : tslice P t = some e) (hz : tsz P e = some sz) (hzz : (tzc P e).map (·.length) = some sz) (hb : tbytes P e = some bytes) (hpos : (0 < sz)) (hsz : ∀ x, (enc x).length = sz) (hone : ∀ x, (enc x).all oneC = true)
    (hs : env.ev s = .slice a xs.length c) (hx : env.ev x = .slice a2 ys.length c2) (hown : Ows H enc e sz a c xs) (hsl : Sls H enc a2 ys) (hbytes : (xs.length + ys.length) * bytes ≤ 140737488355328) (h63 : xs.length + ys.length ≤ 9223372036854775807)
    (hk : ∀ a' c' H', Ows H' enc e sz a' c' (xs ++ ys) → KeepX (blockS a) H H' → (∀ b, blockS a' = some b → some b = blockS a ∨ H b = none) → Inv H' ∧ LW P N ops Inv QW rest (put env d (.slice a' (xs ++ ys).length c')) H') : LW P N ops Inv QW (o :: rest) env H := by
  refine W_step hw (by rw [ho]; rfl) ?_
  have key := appendS_AOp (P := P) (N := N) (enc := enc) (K := fun env' H' => ((rest = [] ∧ isStore o.op = true) ∨ Inv H') ∧ LW P N ops Inv QW rest env' H') hN ho ht hz hzz hb hpos hsz hone hs hx hown hsl hbytes h63
  refine key fun a' c' H' h1 h2 h3 => ?_
  obtain ⟨h4, h5⟩ := hk a' c' H' h1 h2 h3
  rw [hd]
  exact ⟨.inr h4, h5⟩
theorem FreshS.grown {H0 : AH} {a a' : Option Addr} (hf : FreshS H0 a) (k : Keep H0 H) (h : ∀ b, blockS a' = some b → some b = blockS a ∨ H b = none) : FreshS H0 a' := fun b hb => by
  rcases h b hb with h | h
  · exact hf b h.symm
  · exact k.none h
theorem set_flat {sz : Nat} (hsz : ∀ x, (enc x).length = sz) : ∀ (xs : List α) (i : Nat) (x x' : α) (off : Nat) (vs : List Value), xs[i]? = some x → setRange (enc x) off vs = enc x' → off + vs.length ≤ sz → setRange (xs.flatMap enc) (i * sz + off) vs = (xs.set i x').flatMap enc := by
  intro xs i x x' off vs hx he hfit
  obtain ⟨ys, zs, hxs, hi⟩ := split_at xs i x hx
  have hset : xs.set i x' = ys ++ x' :: zs := by rw [hxs, ← hi]; simp
  rw [hset, hxs]
  simp only [List.flatMap_append, List.flatMap_cons, ← he]
  have hl : (ys.flatMap enc).length = i * sz := by rw [flat_len hsz, hi]
  have hx' := hsz x
  unfold setRange
  rw [List.take_append, List.drop_append, hl]
  have e1 : List.take (i * sz + off) (ys.flatMap enc) = ys.flatMap enc := List.take_of_length_le (by omega)
  have e2 : List.drop (i * sz + off + vs.length) (ys.flatMap enc) = [] := List.drop_of_length_le (by omega)
  rw [e1, e2, List.nil_append, show i * sz + off - i * sz = off by omega, show i * sz + off + vs.length - i * sz = off + vs.length by omega]
  rw [List.take_append_of_le_length (by omega), List.drop_append_of_le_length (by omega)]
  simp only [List.append_assoc]
theorem E_storeS {t e sz c n off i : Nat} {a : Option Addr} {x y : Operand} {xs : List α} {z z' : α} {yv : Value} {vs : List Value} (hw : Region.wanted o (yieldedE ops env) = true) (hdst : o.dst = none) (ho : o.op = .store t x y) (hsz : ∀ x, (enc x).length = sz)
    (hx : env.ev x = sp a (i * sz + off)) (hy : env.ev y = yv) (hz : tsz P t = some n) (hown : Ows H enc e sz a c xs) (hel : xs[i]? = some z) (hfit : off + n ≤ sz) (hxs : vcells yv = vs)
    (hv : (noTuple yv && decide (vs.length = n) && vs.all oneC) = true) (hl : setRange (enc z) off vs = enc z')
    (hk : ∀ H', Ows H' enc e sz a c (xs.set i z') → KeepX (blockS a) H H' → EL P N ops Q rest env H') : EL P N ops Q (o :: rest) env H := by
  subst hy hxs
  have hvn : (vcells (env.ev y)).length = n := by simp only [Bool.and_eq_true, decide_eq_true_eq] at hv; exact hv.1.2
  rcases hown.cases with ⟨_, h, _⟩ | ⟨b, h1, h2, h3, h4⟩
  · subst h; simp at hel
  · subst h1
    have hlen := flat_len hsz xs
    have hi := get_lt hel
    have hle : (i + 1) * sz ≤ xs.length * sz := Nat.mul_le_mul_right _ hi
    rw [Nat.succ_mul] at hle
    have hx' : env.ev x = .pointer (some ⟨b, i * sz + off, none⟩) := by rw [hx]; simp only [sp, addr_add, Nat.zero_add]
    refine E_step hw (by rw [ho]; rfl) (AOp_store ho hdst hx' hz h2 (by omega) hv ?_)
    rw [set_flat hsz xs i z z' off _ hel hl (by omega)]
    refine hk _ (Ows.mk' (by rw [flat_len hsz]) (upd_same _ _ _) (by rw [List.length_set]; exact h3) h4) ?_
    exact KeepX.upd _ _ _
end
end Go.Ab

namespace Go.Ab
structure V3 where
  x : Nat
  y : Nat
  z : Nat
def v0 : V3 := ⟨0, 0, 0⟩
structure Row where
  a : Option Addr
  c : Nat
  xs : List Int
def encI (n : Int) : List Value := [.int .i64 n]
def encF (x : Nat) : List Value := [.float .f32 x]
def encB (b : Bool) : List Value := [.bool b]
def encV (v : V3) : List Value := [.float .f32 v.x, .float .f32 v.y, .float .f32 v.z]
def encR (r : Row) : List Value := [.slice r.a r.xs.length r.c]
def encE (e : Int × Int) : List Value := [.int .i64 e.1, .int .i64 e.2]
structure Thr where
  A : Int
  B : Int
  Long : Nat
def encT (t : Thr) : List Value := [.int .i64 t.A, .int .i64 t.B, .float .f32 t.Long]
def vv (v : V3) : Value := .agg #[.float .f32 v.x, .float .f32 v.y, .float .f32 v.z]
def vsub (x y : V3) : V3 := ⟨fop .sub .f32 x.x y.x, fop .sub .f32 x.y y.y, fop .sub .f32 x.z y.z⟩
def vadd (x y : V3) : V3 := ⟨fop .add .f32 x.x y.x, fop .add .f32 x.y y.y, fop .add .f32 x.z y.z⟩
def vinner (x y : V3) : Nat := fop .add .f32 (fop .add .f32 (fop .mul .f32 x.x y.x) (fop .mul .f32 x.y y.y)) (fop .mul .f32 x.z y.z)
/-- Lists are equal where each place is. -/
theorem list_eq_of {α : Type} {xs ys : List α} (hl : xs.length = ys.length) (h : ∀ j, j < xs.length → xs[j]? = ys[j]?) : xs = ys := by
  apply List.ext_getElem? ; intro j
  by_cases hj : j < xs.length
  · exact h j hj
  · rw [List.getElem?_eq_none (by omega), List.getElem?_eq_none (by omega)]
end Go.Ab

namespace Go.Ab
open Ieee
def up64 (x : Nat) : Nat := (fconv .f32 .f64 x).getD 0
def down32 (x : Nat) : Nat := (fconv .f64 .f32 x).getD 0
def root32 (x : Nat) : Nat := down32 (fsqrt .f64 (up64 x))

/-! ### How great a rounded number is -/
theorem cut_le (s : Bool) (n d : Nat) : Toward.even.cut s n d ≤ n / 2 ^ (min d (n.log2 + 2)) + 1 := by
  unfold Toward.cut
  simp only [Nat.one_shiftLeft]
  have := Bool.toNat_le (decide (2 ^ min d (n.log2 + 2) < 2 * (n % 2 ^ min d (n.log2 + 2))) || 2 ^ min d (n.log2 + 2) == 2 * (n % 2 ^ min d (n.log2 + 2)) && n / 2 ^ min d (n.log2 + 2) % 2 == 1)
  omega
/-- A number below 2^(E+1), rounded: its rung. -/
theorem nearest_rung {f : Format} {s : Bool} {m : Nat} {p E : Int} (hm : m ≠ 0) (hE : p + m.log2 ≤ E) (hE0 : f.leastPlace + f.fractionBits ≤ E) :
    ∃ r, f.nearest s m p = f.word s (min r f.infRung) ∧ r ≤ (E - f.fractionBits - f.leastPlace).toNat * f.binade + 2 * f.binade := by
  unfold Format.nearest
  rw [if_neg hm]
  refine ⟨_, rfl, ?_⟩
  let last := max (p + m.log2 - f.fractionBits) f.leastPlace
  have hlast : last ≤ E - f.fractionBits := by simp only [last]; omega
  have h1 : (last - f.leastPlace).toNat * f.binade ≤ (E - f.fractionBits - f.leastPlace).toNat * f.binade := Nat.mul_le_mul_right _ (by omega)
  have hb : f.binade = 2 ^ f.fractionBits := rfl
  have h2 : Toward.even.cut s (m <<< (p - last).toNat) (last - p).toNat ≤ 2 * f.binade := by
    have hlog : m < 2 ^ (m.log2 + 1) := Nat.lt_log2_self
    by_cases hp : last ≤ p
    · -- nothing is dropped
      have h0 : (last - p).toNat = 0 := by omega
      have hc := cut_le s (m <<< (p - last).toNat) (last - p).toNat
      rw [h0] at hc ⊢
      simp only [Nat.zero_min, Nat.pow_zero, Nat.div_one, Nat.shiftLeft_eq] at hc ⊢
      have hk : m.log2 + 1 + (p - last).toNat ≤ f.fractionBits + 1 := by
        have : p + m.log2 - f.fractionBits ≤ last := by simp only [last]; omega
        omega
      have h3 : m * 2 ^ (p - last).toNat < 2 ^ (m.log2 + 1) * 2 ^ (p - last).toNat := Nat.mul_lt_mul_of_pos_right hlog (Nat.two_pow_pos _)
      rw [← Nat.pow_add] at h3
      have h4 : 2 ^ (m.log2 + 1 + (p - last).toNat) ≤ 2 ^ (f.fractionBits + 1) := Nat.pow_le_pow_right (by omega) hk
      rw [Nat.pow_succ] at h4
      omega
    · have h0 : (p - last).toNat = 0 := by omega
      rw [h0, Nat.shiftLeft_zero]
      have hc := cut_le s m (last - p).toNat
      have hpos : 0 < 2 ^ f.fractionBits := Nat.two_pow_pos _
      by_cases hd : (last - p).toNat ≤ m.log2 + 2
      · rw [Nat.min_eq_left hd] at hc
        have h3 : m / 2 ^ (last - p).toNat < 2 ^ (f.fractionBits + 1) := by
          rw [Nat.div_lt_iff_lt_mul (Nat.two_pow_pos _), ← Nat.pow_add]
          refine Nat.lt_of_lt_of_le hlog (Nat.pow_le_pow_right (by omega) ?_)
          have : p + m.log2 - f.fractionBits ≤ last := by simp only [last]; omega
          omega
        rw [Nat.pow_succ] at h3
        omega
      · rw [Nat.min_eq_right (by omega)] at hc
        have h3 : m / 2 ^ (m.log2 + 2) = 0 := Nat.div_eq_of_lt (Nat.lt_of_lt_of_le hlog (Nat.pow_le_pow_right (by omega) (by omega)))
        omega
  show (last - f.leastPlace).toNat * f.binade + Toward.even.cut s (m <<< (p - last).toNat) (last - p).toNat ≤ _
  omega
/-- A number whose first digit is at most at place E, or nought. -/
def Upto (E : Int) : Datum → Prop
  | .number _ m p => m = 0 ∨ p + m.log2 ≤ E
  | _ => False
def okFormat (f : Format) : Prop := 0 < f.exponentBits ∧ f.infRung < f.signWeight
theorem read_word {f : Format} (hf : okFormat f) {s : Bool} {r : Nat} (hr : r < f.infRung) : Upto (f.leastPlace + f.fractionBits + (r / f.binade : Nat)) (f.read (f.word s r)) := by
  have hb : 0 < f.binade := Nat.two_pow_pos _
  have hbb : f.binade = 2 ^ f.fractionBits := rfl
  have hw : f.word s r % f.signWeight = r := by
    unfold Format.word
    have := hf.2
    split
    · rw [Nat.add_mod_left, Nat.mod_eq_of_lt (by omega)]
    · exact Nat.mod_eq_of_lt (by omega)
  unfold Format.read
  rw [hw]
  dsimp only
  split
  · rename_i h
    unfold Upto
    by_cases h0 : r = 0
    · exact .inl h0
    · right
      have : r.log2 < f.fractionBits := (Nat.log2_lt h0).2 (by rw [← hbb]; exact h)
      have h2 : r / f.binade = 0 := Nat.div_eq_of_lt h
      omega
  · rename_i h
    · unfold Upto
      right
      have h1 : (f.binade + r % f.binade).log2 < f.fractionBits + 1 := (Nat.log2_lt (by omega)).2 (by rw [Nat.pow_succ, ← hbb]; have := Nat.mod_lt r hb; omega)
      have h2 : 1 ≤ r / f.binade := (Nat.one_le_div_iff hb).2 (by omega)
      omega
theorem Upto.mono {E E' : Int} {d : Datum} (h : Upto E d) (he : E ≤ E') : Upto E' d := by
  cases d with
  | number s m p => rcases h with h | h; · exact .inl h
                    · exact .inr (by omega)
  | _ => exact h.elim
/-- What is written stays finite, and is hardly greater. -/
theorem write_upto {f : Format} (hf : okFormat f) (hi : 0 < f.infRung) {s : Bool} {m : Nat} {p E : Int} (h : Upto E (.number s m p)) (hE0 : f.leastPlace + f.fractionBits ≤ E) (hE : ((E - f.fractionBits - f.leastPlace).toNat + 2) * f.binade < f.infRung) :
    Upto (E + 2) (f.read (f.write (.number s m p))) := by
  have hb : 0 < f.binade := Nat.two_pow_pos _
  unfold Format.write
  dsimp only
  by_cases hm : m = 0
  · unfold Format.nearest
    rw [if_pos hm]
    refine (read_word hf hi).mono ?_
    simp only [Nat.zero_div]
    omega
  · obtain ⟨r, h1, h2⟩ := nearest_rung (f := f) (s := s) hm (h.resolve_left hm) hE0
    rw [← Nat.add_mul] at h2
    rw [h1, Nat.min_eq_left (by omega)]
    refine (read_word hf (by omega)).mono ?_
    have h3 : r / f.binade ≤ (E - f.fractionBits - f.leastPlace).toNat + 2 := by
      rw [Nat.div_le_iff_le_mul_add_pred hb, Nat.mul_comm]; omega
    omega
theorem rootFrom_le (n : Nat) : ∀ (k r : Nat), r * r ≤ n → Datum.rootFrom n k r * Datum.rootFrom n k r ≤ n
  | 0, r, h => h
  | k + 1, r, h => by
    unfold Datum.rootFrom
    dsimp only
    split
    · rename_i h2; exact rootFrom_le n k _ h2
    · exact rootFrom_le n k r h
theorem log2_shift {m k : Nat} (hm : m ≠ 0) : (m <<< k).log2 = m.log2 + k := by
  rw [Nat.shiftLeft_eq]
  have h1 := Nat.log2_self_le hm
  have h2 : m < 2 ^ (m.log2 + 1) := Nat.lt_log2_self
  have h0 : m * 2 ^ k ≠ 0 := Nat.mul_ne_zero hm (Nat.ne_of_gt (Nat.two_pow_pos _))
  refine Nat.le_antisymm ?_ ?_
  · have : (m * 2 ^ k).log2 < m.log2 + k + 1 := (Nat.log2_lt h0).2 (by
      rw [show m.log2 + k + 1 = m.log2 + 1 + k by omega, Nat.pow_add]; exact Nat.mul_lt_mul_of_pos_right h2 (Nat.two_pow_pos _))
    omega
  · exact (Nat.le_log2 h0).2 (by rw [Nat.pow_add]; exact Nat.mul_le_mul_right _ h1)
theorem root_upto {digits : Nat} {s : Bool} {m : Nat} {p E : Int} {d : Datum} (h : Upto E (.number s m p)) (hr : (Datum.number s m p).root digits = some d) : Upto (E / 2) d := by
  unfold Datum.root at hr
  dsimp only at hr
  by_cases hm : m = 0
  · rw [if_pos hm] at hr; injection hr with hr; subst hr; exact .inl hm
  · rw [if_neg hm] at hr
    cases s with
    | true => simp at hr
    | false =>
      simp only [Bool.false_eq_true, if_false, Option.some.injEq] at hr
      subst hr
      generalize hk : 2 * digits - m.log2 + ((p - ((2 * digits - m.log2 : Nat) : Int)) % 2).toNat = k
      have hp := h.resolve_left hm
      have hn := log2_shift (k := k) hm
      have hw := rootFrom_le (m <<< k) ((m <<< k).log2 / 2 + 1) 0 (Nat.zero_le _)
      generalize Datum.rootFrom (m <<< k) ((m <<< k).log2 / 2 + 1) 0 = w at hw ⊢
      have hlt : m <<< k < 2 ^ ((m <<< k).log2 + 1) := Nat.lt_log2_self
      right
      have hwl : w < 2 ^ ((m <<< k).log2 / 2 + 1) := by
        refine Nat.lt_of_not_le fun hle => ?_
        have h1 := Nat.mul_le_mul hle hle
        rw [← Nat.pow_add] at h1
        have h2 : 2 ^ ((m <<< k).log2 + 1) ≤ 2 ^ ((m <<< k).log2 / 2 + 1 + ((m <<< k).log2 / 2 + 1)) := Nat.pow_le_pow_right (by omega) (by omega)
        omega
      have hb : 2 * w + (w * w != m <<< k).toNat < 2 ^ ((m <<< k).log2 / 2 + 2) := by
        have := Bool.toNat_le (w * w != m <<< k)
        rw [Nat.pow_succ]; omega
      have hl : (2 * w + (w * w != m <<< k).toNat).log2 ≤ (m <<< k).log2 / 2 + 1 := by
        by_cases h0 : 2 * w + (w * w != m <<< k).toNat = 0
        · rw [h0]; simp
        · have := (Nat.log2_lt h0).2 hb; omega
      rw [hn] at hl
      omega
theorem ok_single : okFormat single := ⟨by decide, by decide +kernel⟩
theorem ok_double : okFormat double := ⟨by decide, by decide +kernel⟩
theorem isInf_of {E : Int} {d : Datum} (h : Upto E d) : d.isInfinity = false := by cases d <;> first | rfl | exact h.elim
/-- Each datum that a single word holds. -/
theorem read_single (x : Nat) : (∃ s m p, single.read x = .number s m p ∧ Upto 128 (.number s m p)) ∨ (∃ s, single.read x = .infinity s) ∨ ∃ s t, single.read x = .nan s t := by
  cases h : single.read x with
  | nan s t => exact .inr (.inr ⟨s, t, rfl⟩)
  | infinity s => exact .inr (.inl ⟨s, rfl⟩)
  | number s m p =>
    refine .inl ⟨s, m, p, rfl, ?_⟩
    unfold Format.read at h
    dsimp only at h
    have hb : single.binade = 8388608 := by decide +kernel
    have hi : single.infRung = 2139095040 := by decide +kernel
    have hl : single.leastPlace = -149 := by decide +kernel
    split at h
    · rename_i h1
      injection h with _ h2 h3
      rw [hb] at h1; rw [hl] at h3
      by_cases h0 : m = 0
      · exact .inl h0
      · right
        have : m.log2 < 23 := (Nat.log2_lt h0).2 (by rw [← h2]; exact h1)
        omega
    · split at h
      · rename_i h1 h2
        injection h with _ h3 h4
        rw [hb, hi] at *
        rw [hl] at h4
        right
        have h5 : m < 16777216 := by omega
        have : m.log2 < 24 := (Nat.log2_lt (by omega)).2 h5
        omega
      · split at h <;> cases h
theorem fconv_up (x : Nat) : ∃ y, fconv .f32 .f64 x = some y ∧ ((∃ s m p, double.read y = .number s m p ∧ Upto 130 (.number s m p)) ∨ (∃ s, double.read y = .infinity s) ∨ ∃ s t, double.read y = .nan s t) := by
  unfold fconv
  rw [if_neg (by decide)]
  show ∃ y, (match single.read x with | .nan _ _ => some (cnan .f64) | .infinity s => some (double.write (.infinity s)) | .number s m e => if (double.read (double.write (.number s m e))).isInfinity then none else some (double.write (.number s m e))) = some y ∧ _
  rcases read_single x with ⟨s, m, p, h, hu⟩ | ⟨s, h⟩ | ⟨s, t, h⟩
  · rw [h]
    have h1 := write_upto ok_double (by decide +kernel) hu (by decide +kernel) (by decide +kernel)
    dsimp only
    rw [isInf_of h1]
    refine ⟨_, rfl, ?_⟩
    cases hr : double.read (double.write (.number s m p)) with
    | number s' m' p' => rw [hr] at h1; exact .inl ⟨_, _, _, rfl, h1⟩
    | _ => rw [hr] at h1; exact h1.elim
  · rw [h]; exact ⟨_, rfl, .inr (.inl (by
      cases s
      · exact ⟨false, by decide +kernel⟩
      · exact ⟨true, by decide +kernel⟩))⟩
  · rw [h]; exact ⟨_, rfl, .inr (.inr ⟨false, 2251799813685248, by decide +kernel⟩)⟩
theorem up64_eq (x : Nat) : fconv .f32 .f64 x = some (up64 x) := by
  obtain ⟨y, h, _⟩ := fconv_up x
  unfold up64; rw [h]; rfl
theorem root32_eq (x : Nat) : fconv .f64 .f32 (fsqrt .f64 (up64 x)) = some (root32 x) := by
  have key : ∃ z, fconv .f64 .f32 (fsqrt .f64 (up64 x)) = some z := by
    obtain ⟨y, hy, hc⟩ := fconv_up x
    have hy' : up64 x = y := by unfold up64; rw [hy]; rfl
    rw [hy']
    unfold fconv
    rw [if_neg (by decide)]
    show ∃ z, (match double.read (fsqrt .f64 y) with | .nan _ _ => some (cnan .f32) | .infinity s => some (single.write (.infinity s)) | .number s m e => if (single.read (single.write (.number s m e))).isInfinity then none else some (single.write (.number s m e))) = some z
    have hd : (∃ d, double.read (fsqrt .f64 y) = d ∧ Upto 67 d) ∨ (∃ s, double.read (fsqrt .f64 y) = .infinity s) ∨ ∃ s t, double.read (fsqrt .f64 y) = .nan s t := by
      cases hq : double.read (fsqrt .f64 y) with
      | infinity s => exact .inr (.inl ⟨s, rfl⟩)
      | nan s t => exact .inr (.inr ⟨s, t, rfl⟩)
      | number s m p =>
        left
        refine ⟨_, rfl, ?_⟩
        have hsq : fsqrt .f64 y = (((double.read y).root 54).map double.write).getD (cnan .f64) := rfl
        rw [hsq] at hq
        cases hroot : (double.read y).root 54 with
        | none =>
          have hn : double.read (cnan .f64) = .nan false 2251799813685248 := by decide +kernel
          rw [hroot] at hq
          simp only [Option.map_none, Option.getD_none, hn] at hq
          cases hq
        | some d =>
          rw [hroot] at hq
          simp only [Option.map_some, Option.getD_some] at hq
          rcases hc with ⟨s', m', p', h1, h2⟩ | ⟨s', h1⟩ | ⟨s', t', h1⟩
          · rw [h1] at hroot
            have h3 := root_upto h2 hroot
            cases d with
            | number s2 m2 p2 =>
              have h4 := write_upto ok_double (by decide +kernel) h3 (by decide +kernel) (by decide +kernel)
              rw [hq] at h4; exact h4
            | _ => exact h3.elim
          · rw [h1] at hroot
            unfold Datum.root at hroot
            cases s' with
            | true => simp at hroot
            | false =>
              simp only [Bool.false_eq_true, if_false, Option.some.injEq] at hroot
              subst hroot
              have hn : double.read (double.write (.infinity false)) = .infinity false := by decide +kernel
              rw [hn] at hq; cases hq
          · rw [h1] at hroot; cases hroot
    rcases hd with ⟨d, h1, h2⟩ | ⟨s, h1⟩ | ⟨s, t, h1⟩
    · rw [h1]
      cases d with
      | number s m p =>
        have h3 := write_upto ok_single (by decide +kernel) h2 (by decide +kernel) (by decide +kernel)
        dsimp only
        rw [isInf_of h3]
        exact ⟨_, rfl⟩
      | _ => exact h2.elim
    · rw [h1]; exact ⟨_, rfl⟩
    · rw [h1]; exact ⟨_, rfl⟩
  obtain ⟨z, hz⟩ := key
  unfold root32 down32; rw [hz]; rfl
/-! ### Whether numbers are finite, or not less -/
def fin32 (x : Nat) : Bool := feq .f32 (fop .sub .f32 x x) 0
def over32 (x : Nat) : Bool := fin32 x && fgt .f32 x 0
def vlong (v : V3) : Nat := root32 (vinner v v)
theorem datum_order_refl (d : Datum) (h : d.isNaN = false) : d.order d = some .eq := by
  cases d with
  | nan s t => cases h
  | infinity s => cases s <;> rfl
  | number s m p => simp only [Datum.order]; simp [compare, compareOfLessAndEq]
theorem feq_refl {k : FloatKind} {x : Nat} (h : isN k x = false) : feq k x x = true := by
  unfold feq Format.order
  rw [datum_order_refl _ h]; rfl
theorem isN_of_feq {k : FloatKind} {x : Nat} (h : feq k x x = false) : isN k x = true := by
  cases hn : isN k x with
  | true => rfl
  | false => rw [feq_refl hn] at h; cases h
section
variable {P : Program}
theorem cv_up {s t x : Nat} (hs : (P.underlying s).isSome = true) (hi : tint P t = none) (hf : tflt P t = some .f64) : dconv P s t (.float .f32 x) = some (.float .f64 (up64 x)) := by
  unfold dconv; simp only [hs, if_true, hi, hf, up64_eq, Option.map_some]
theorem cv_root {s t x : Nat} (hs : (P.underlying s).isSome = true) (hi : tint P t = none) (hf : tflt P t = some .f32) : dconv P s t (.float .f64 (fsqrt .f64 (up64 x))) = some (.float .f32 (root32 x)) := by
  unfold dconv; simp only [hs, if_true, hi, hf, root32_eq, Option.map_some]
theorem dv_min {env : Env} {H : AH} {c : Go.Call} {x y : Operand} {a b : Int} (h1 : c.callee = .builtin .min) (h2 : c.args.toList = [x, y]) (hx : env.ev x = .int .i64 a) (hy : env.ev y = .int .i64 b) : dval P (.call c) env H = some (.int .i64 (min a b)) := by
  simp only [dval, h1, h2, List.map_cons, List.map_nil, hx, hy, dmin, Int.min_def]
  congr 2
  by_cases h : b < a
  · rw [if_pos h, if_neg (by omega)]
  · rw [if_neg h, if_pos (by omega)]
theorem dv_max {env : Env} {H : AH} {c : Go.Call} {x y : Operand} {a b : Int} (h1 : c.callee = .builtin .max) (h2 : c.args.toList = [x, y]) (hx : env.ev x = .int .i64 a) (hy : env.ev y = .int .i64 b) : dval P (.call c) env H = some (.int .i64 (max a b)) := by
  simp only [dval, h1, h2, List.map_cons, List.map_nil, hx, hy, dmax, Int.max_def]
  congr 2
  by_cases h : b > a
  · rw [if_pos h, if_pos (by omega)]
  · rw [if_neg h]
    by_cases h2 : a ≤ b
    · rw [if_pos h2]; omega
    · rw [if_neg h2]
theorem cv_same {s t x : Nat} {k : FloatKind} (hs : (P.underlying s).isSome = true) (hi : tint P t = none) (hf : tflt P t = some k) : dconv P s t (.float k x) = some (.float k x) := by
  unfold dconv; simp only [hs, if_true, hi, hf, fconv, Option.map_some]
theorem cv_i64 {s t : Nat} {n : Int} (hs : (P.underlying s).isSome = true) (hi : tint P t = some .i64) (h : -9223372036854775808 ≤ n ∧ n ≤ 9223372036854775807) : dconv P s t (.int .i64 n) = some (.int .i64 n) := by
  unfold dconv; simp only [hs, if_true, hi, wrp64 h]
end
end Go.Ab

namespace Go.Ab
section
variable {α β : Type} {xs : List α} {i : Nat} {x : α}
theorem set_step {z : α} (hx : xs[i]? = some x) : (xs.take i ++ List.replicate (xs.length - i) z).set i x = xs.take (i + 1) ++ List.replicate (xs.length - (i + 1)) z := by
  have hi := get_lt hx
  rw [List.set_append_right _ _ (by rw [List.length_take]; omega), show i - (xs.take i).length = 0 by rw [List.length_take]; omega, show xs.length - i = (xs.length - (i + 1)) + 1 by omega, List.replicate_succ, List.set_cons_zero, List.take_add_one, hx]
  simp
theorem take_step (hx : xs[i]? = some x) : xs.take (i + 1) = xs.take i ++ [x] := by rw [List.take_add_one, hx]; rfl
theorem map_get {f : α → β} (hx : xs[i]? = some x) : (xs.map f)[i]? = some (f x) := by rw [List.getElem?_map, hx]; rfl
theorem eq_step {ys : List α} {y : α} (h : ∀ j, j < i → xs[j]? = ys[j]?) (hx : xs[i]? = some x) (hy : ys[i]? = some y) (e : x = y) : ∀ j, j < i + 1 → xs[j]? = ys[j]? := by
  intro j hj
  by_cases h1 : j < i
  · exact h j h1
  · have : j = i := by omega
    subst this; rw [hx, hy, e]
theorem getA {γ : Type} {ys : List β} {f : α → γ} {g : β → γ} {y : β} (he : xs.map f = ys.map g) (hx : xs[i]? = some x) (hy : ys[i]? = some y) : f x = g y := by
  have h1 := map_get (f := f) hx
  have h2 := map_get (f := g) hy
  rw [he, h2] at h1; injection h1 with h1; exact h1.symm
end
theorem set_get {α : Type} {xs : List α} {i : Nat} {x z : α} (h : xs[i]? = some x) : (xs.set i z)[i]? = some z := by
  have := get_lt h
  rw [List.getElem?_set_self (by omega)]
/-- Rows of a list of lists: each readable, none too long. -/
def Rows (H : AH) (a : Option Addr) (rs : List Row) : Prop := Sls H encR a rs ∧ ∀ r ∈ rs, Sls H encI r.a r.xs ∧ r.xs.length ≤ 1048576
theorem Rows.keep {H H' : AH} {a : Option Addr} {rs : List Row} (h : Rows H a rs) (k : Keep H H') : Rows H' a rs := ⟨h.1.keep k, fun r hr => ⟨(h.2 r hr).1.keep k, (h.2 r hr).2⟩⟩
theorem Rows.el {H : AH} {a : Option Addr} {rs : List Row} {i : Nat} {r : Row} (h : Rows H a rs) (hr : rs[i]? = some r) : Sls H encI r.a r.xs ∧ r.xs.length ≤ 1048576 := h.2 r (List.mem_of_getElem? hr)
end Go.Ab

namespace Go.Ab
/-- The rows qs are new since H0. -/
def OwnRows (e : Nat) (H0 H : AH) (qs : List Row) : Prop := ∀ q ∈ qs, FreshS H0 q.a ∧ Ows H encI e 1 q.a q.c q.xs
section
variable {e : Nat} {H0 H H' : AH} {qs : List Row}
theorem OwnRows.nil : OwnRows e H0 H [] := fun q h => by simp at h
theorem OwnRows.keep (h : OwnRows e H0 H qs) (k : Keep H H') : OwnRows e H0 H' qs := fun q hq => ⟨(h q hq).1, (h q hq).2.keep k⟩
theorem OwnRows.keepX {α : Type} {enc : α → List Value} {e' sz c : Nat} {a : Option Addr} {xs : List α} (h : OwnRows e H0 H qs) (k : KeepX (blockS a) H H') (ho : Ows H enc e' sz a c xs) (hne : (e == e') = false) : OwnRows e H0 H' qs :=
  fun q hq => ⟨(h q hq).1, (h q hq).2.keepX k (ho.ne_ows (h q hq).2 hne)⟩
theorem OwnRows.keepB {b ty room : Nat} {l : List Value} {o : Bool} (h : OwnRows e H0 H qs) (k : KeepX (some b) H H') (hb : H b = some (.cells l ty o room)) (hne : (ty == e) = false) : OwnRows e H0 H' qs :=
  fun q hq => ⟨(h q hq).1, (h q hq).2.keepX k ((h q hq).2.ne_box' hb hne)⟩
theorem OwnRows.snoc {r : Row} (h : OwnRows e H0 H qs) (h1 : FreshS H0 r.a) (h2 : Ows H encI e 1 r.a r.c r.xs) : OwnRows e H0 H (qs ++ [r]) := fun q hq => by
  rcases List.mem_append.1 hq with hq | hq
  · exact h q hq
  · simp only [List.mem_singleton] at hq; subst hq; exact ⟨h1, h2⟩
end
theorem put_step {α : Type} {qs : List α} {i n : Nat} {z q : α} (hq : qs.length = i) (hi : i < n) : (qs ++ List.replicate (n - i) z).set i q = qs ++ [q] ++ List.replicate (n - (i + 1)) z := by
  rw [List.set_append_right _ _ (by omega), show i - qs.length = 0 by omega, show n - i = (n - (i + 1)) + 1 by omega, List.replicate_succ, List.set_cons_zero, List.append_assoc]; rfl
end Go.Ab

namespace Go.Ab
open Ieee
def fk (n : Int) : Nat := FloatKind.nearest .f32 n
theorem word_notN {s : Bool} {r : Nat} (hr : r ≤ single.infRung) : (single.read (single.word s r)).isNaN = false := by
  have hw : single.word s r % single.signWeight = r := by
    have h1 : single.infRung = 2139095040 := by decide +kernel
    have h2 : single.signWeight = 2147483648 := by decide +kernel
    unfold Format.word
    split
    · rw [Nat.add_mod_left, Nat.mod_eq_of_lt (by omega)]
    · exact Nat.mod_eq_of_lt (by omega)
  unfold Format.read
  rw [hw]
  dsimp only
  split
  · rfl
  · split
    · rfl
    · split
      · rfl
      · omega
theorem fk_notN (n : Int) : isN .f32 (fk n) = false := by
  show (single.read (single.nearest (decide (n < 0)) n.natAbs 0)).isNaN = false
  unfold Format.nearest
  split
  · exact word_notN (Nat.zero_le _)
  · exact word_notN (Nat.min_le_right _ _)
theorem fk_same (n : Int) : feq .f32 (fk n) (fk n) = true := feq_refl (fk_notN n)
def markV (k : Int) (n : Nat) : List V3 := (List.range n).map fun (i : Nat) => ⟨fk (k + 3 * (i : Int)), fk (k + 3 * (i : Int) + 1), fk (k + 3 * (i : Int) + 1 + 1)⟩
def markT (k : Int) (n : Nat) : List Thr := (List.range n).map fun (i : Nat) => ⟨k + 3 * (i : Int), k + 3 * (i : Int) + 1, fk (k + 3 * (i : Int) + 1 + 1)⟩
def markI (k : Int) (n : Nat) : List Int := (List.range n).map fun (i : Nat) => k + (i : Int)
theorem range_get {α : Type} {f : Nat → α} {n i : Nat} {x : α} (h : ((List.range n).map f)[i]? = some x) : x = f i := by
  have hi := get_lt h
  rw [List.length_map, List.length_range] at hi
  rw [List.getElem?_map, List.getElem?_range hi] at h
  simpa using h.symm
theorem mark_step {α : Type} {A : List α} {xs : List α} {i : Nat} {z : α} {f : Nat → α} (hA : A = (List.range i).map f) (hi : i < xs.length) (hz : z = f i) : (A ++ xs.drop i).set i z = (List.range (i + 1)).map f ++ xs.drop (i + 1) := by
  have hl : A.length = i := by rw [hA]; simp
  rw [List.set_append_right _ _ (by omega), show i - A.length = 0 by omega, List.drop_eq_getElem_cons hi, List.set_cons_zero, List.range_succ, List.map_append, hA, hz]
  simp
/-- Memory but for some blocks. -/
def maskS (H : AH) (a : Option Addr) : AH := fun b => if blockS a = some b then none else H b
theorem maskS_keep (H : AH) (a : Option Addr) : Keep (maskS H a) H := fun c blk h => by
  unfold maskS at h
  split at h
  · cases h
  · exact h
theorem maskS_fresh (H : AH) (a : Option Addr) : FreshS (maskS H a) a := fun b h => by unfold maskS; rw [if_pos h]
theorem maskS_X {H H' : AH} {a : Option Addr} (k : Keep (maskS H a) H') : KeepX (blockS a) H H' := fun c blk hc h => k c blk (by unfold maskS; rw [if_neg (fun e => hc e.symm)]; exact h)
def sz1 (left n : Int) : Int := if left - n < 0 then -1 else left - n
/-- What is kept but for the blocks of S. -/
def KeepP (S : Nat → Prop) (H H' : AH) : Prop := ∀ c blk, ¬ S c → H c = some blk → H' c = some blk
/-- A row that may be written. -/
def OwnR (e : Nat) (H : AH) (q : Row) : Prop := ∃ ys, ys.length = q.xs.length ∧ Ows H encI e 1 q.a q.c ys
theorem OwnR.keepP {e : Nat} {S : Nat → Prop} {H H' : AH} {q : Row} (h : OwnR e H q) (k : KeepP S H H') (hn : ∀ b, blockS q.a = some b → ¬ S b) : OwnR e H' q := by
  obtain ⟨ys, h1, h2⟩ := h
  refine ⟨ys, h1, h2.1, ?_⟩
  rcases h2.2 with h3 | ⟨b, cap, h3, h4, h5⟩
  · exact .inl h3
  · refine .inr ⟨b, cap, h3, k b _ (hn b ?_) h4, h5⟩
    injection h3 with h3; rw [h3]; rfl
/-- A row written: each other one may be written still. -/
theorem OwnR.other {e : Nat} {H H' : AH} {q p : Row} {ys zs : List Int} (h : OwnR e H q) (hp : Ows H encI e 1 p.a p.c ys) (k : KeepX (blockS p.a) H H') (hp' : Ows H' encI e 1 p.a p.c zs) (hl : zs.length = ys.length) : OwnR e H' q := by
  obtain ⟨xs, h1, h2⟩ := h
  by_cases hb : blockS q.a = blockS p.a
  · rcases h2.cases with ⟨ha, hx, hc⟩ | ⟨b, ha, hx, hc, hm⟩
    · refine ⟨xs, h1, ?_⟩; rw [ha, hx, hc]; exact Ows_nil
    · rcases hp.cases with ⟨ha', _, _⟩ | ⟨b', ha', hx', hc', hm'⟩
      · rw [ha, ha'] at hb; cases hb
      · have hbb : b = b' := by rw [ha, ha'] at hb; simpa [blockS] using hb
        subst hbb
        rw [hx] at hx'
        injection hx' with hx'; injection hx' with hxl _ _ hr
        have hcc : q.c = p.c := by omega
        have hxx : xs.length = ys.length := by have := congrArg List.length hxl; rwa [flat_len (sz := 1) (fun _ => rfl), flat_len (sz := 1) (fun _ => rfl), Nat.mul_one, Nat.mul_one] at this
        refine ⟨zs, by omega, ?_⟩
        rw [ha, hcc]; rw [ha'] at hp'; exact hp'
  · exact ⟨xs, h1, h2.keepX k fun b hb' he => hb (by rw [hb', he])⟩
end Go.Ab

namespace Go.Ab
def KeepL (L : List (Option Addr)) (H H' : AH) : Prop := ∀ c blk, (∀ a ∈ L, blockS a ≠ some c) → H c = some blk → H' c = some blk
def inL (L : List (Option Addr)) (b : Nat) : Bool := L.any fun a => blockS a == some b
def maskL (H : AH) (L : List (Option Addr)) : AH := fun b => if inL L b then none else H b
theorem inL_iff {L : List (Option Addr)} {b : Nat} : inL L b = true ↔ ∃ a ∈ L, blockS a = some b := by simp [inL]
theorem maskL_keep (H : AH) (L : List (Option Addr)) : Keep (maskL H L) H := fun c blk h => by
  unfold maskL at h
  split at h
  · cases h
  · exact h
theorem maskL_fresh (H : AH) {L : List (Option Addr)} {a : Option Addr} (ha : a ∈ L) : FreshS (maskL H L) a := fun b h => by
  unfold maskL; rw [if_pos (inL_iff.2 ⟨a, ha, h⟩)]
theorem maskL_K {H H' : AH} {L : List (Option Addr)} (k : Keep (maskL H L) H') : KeepL L H H' := fun c blk hc h => k c blk (by
  unfold maskL
  rw [if_neg (fun e => by obtain ⟨a, ha, hb⟩ := inL_iff.1 e; exact hc a ha hb)]; exact h)
theorem KeepL.x {L : List (Option Addr)} {H H' : AH} (k : KeepL L H H') {a : Option Addr} (hL : ∀ x ∈ L, x = a) : KeepX (blockS a) H H' := fun c blk hc h => k c blk (fun x hx e => hc (by rw [← hL x hx, e])) h
def Sep (a b : Option Addr) : Prop := ∀ x, blockS a = some x → some x ≠ blockS b
theorem Sep.symm {a b : Option Addr} (h : Sep a b) : Sep b a := fun x hx e => h x e.symm hx.symm
theorem sep_fresh {H : AH} {a b : Option Addr} {α : Type} {enc : α → List Value} {e sz c : Nat} {xs : List α} (h : Ows H enc e sz a c xs) (hf : FreshS H b) : Sep a b := fun x hx he => by
  have := hf x he.symm
  rcases h.cases with ⟨h1, _⟩ | ⟨b', h1, h2, _⟩
  · subst h1; simp [blockS] at hx
  · subst h1; simp only [blockS, Option.map_some, Option.some.injEq] at hx; subst hx; rw [h2] at this; cases this
theorem sep_grown {H : AH} {o a a' : Option Addr} {α : Type} {enc : α → List Value} {e sz c : Nat} {xs : List α} (h : Ows H enc e sz o c xs) (hs : Sep o a) (hg : ∀ b, blockS a' = some b → some b = blockS a ∨ H b = none) : Sep o a' := fun x hx he => by
  rcases hg x he.symm with h1 | h1
  · exact hs x hx h1
  · rcases h.cases with ⟨h2, _⟩ | ⟨b', h2, h3, _⟩
    · subst h2; simp [blockS] at hx
    · subst h2; simp only [blockS, Option.map_some, Option.some.injEq] at hx; subst hx; rw [h3] at h1; cases h1
section
variable {α : Type} {enc : α → List Value} {e sz c : Nat} {a : Option Addr} {xs : List α} {H H' : AH} {L : List (Option Addr)}
theorem Ows.keepL (h : Ows H enc e sz a c xs) (k : KeepL L H H') (hs : ∀ x ∈ L, Sep a x) : Ows H' enc e sz a c xs := by
  refine ⟨h.1, ?_⟩
  rcases h.2 with h2 | ⟨b, cap, h1, h2, h3⟩
  · exact .inl h2
  · refine .inr ⟨b, cap, h1, k _ _ (fun x hx e => ?_) h2, h3⟩
    injection h1 with h1
    exact hs x hx b (by rw [h1]; rfl) e.symm
end
/-- A memory that changed in fresh slices only. -/
theorem Keep.transL {H H1 H2 : AH} {L : List (Option Addr)} (k : Keep H H1) (hf : ∀ a ∈ L, FreshS H a) (x : KeepL L H1 H2) : Keep H H2 := fun c blk h => x c blk (fun a ha e => by rw [hf a ha c e] at h; cases h) (k c blk h)
theorem KeepX.toL {a : Option Addr} {H H' : AH} (k : KeepX (blockS a) H H') : KeepL [a] H H' := fun c blk hc h => k c blk (fun e => hc a (by simp) e.symm) h
/-- One row of many was written. -/
theorem rows_other {e : Nat} {H H' : AH} {p : Row} {ys zs : List Int} {rs : List Row} (h : ∀ q ∈ rs, OwnR e H q) (hp : Ows H encI e 1 p.a p.c ys) (k : KeepX (blockS p.a) H H') (hp' : Ows H' encI e 1 p.a p.c zs) (hl : zs.length = ys.length) : ∀ q ∈ rs, OwnR e H' q :=
  fun q hq => (h q hq).other hp k hp' hl
theorem rows_keep {e : Nat} {H H' : AH} {rs : List Row} (h : ∀ q ∈ rs, OwnR e H q) (k : Keep H H') : ∀ q ∈ rs, OwnR e H' q := fun q hq => by
  obtain ⟨ys, h1, h2⟩ := h q hq; exact ⟨ys, h1, h2.keep k⟩
theorem rows_keepX {α : Type} {enc : α → List Value} {e e' sz c : Nat} {a : Option Addr} {xs : List α} {H H' : AH} {rs : List Row} (h : ∀ q ∈ rs, OwnR e H q) (k : KeepX (blockS a) H H') (ho : Ows H enc e' sz a c xs) (hne : (e == e') = false) : ∀ q ∈ rs, OwnR e H' q := fun q hq => by
  obtain ⟨ys, h1, h2⟩ := h q hq; exact ⟨ys, h1, h2.keepX k (ho.ne_ows h2 hne)⟩
theorem rows_keepB {e b ty room : Nat} {l : List Value} {o : Bool} {H H' : AH} {rs : List Row} (h : ∀ q ∈ rs, OwnR e H q) (k : KeepX (some b) H H') (hb : H b = some (.cells l ty o room)) (hne : (ty == e) = false) : ∀ q ∈ rs, OwnR e H' q := fun q hq => by
  obtain ⟨ys, h1, h2⟩ := h q hq; exact ⟨ys, h1, h2.keepX k (h2.ne_box' hb hne)⟩
end Go.Ab

namespace Go.Ab
def inP (p : Int) (n : Int) : Prop := 0 ≤ p ∧ p ≤ n - 1
instance (p n : Int) : Decidable (inP p n) := inferInstanceAs (Decidable (_ ∧ _))
def triP (t : List Int) (n : Int) : Prop := t.length = 3 ∧ t.getD 0 0 ≠ t.getD 1 0 ∧ t.getD 1 0 ≠ t.getD 2 0 ∧ t.getD 0 0 ≠ t.getD 2 0 ∧ inP (t.getD 0 0) n ∧ inP (t.getD 1 0) n ∧ inP (t.getD 2 0) n
instance (t : List Int) (n : Int) : Decidable (triP t n) := inferInstanceAs (Decidable (_ ∧ _))
def meshP (n : Nat) (ts : List (List Int)) : Prop := n ≤ 64 ∧ ts.length ≤ 128 ∧ ∀ t ∈ ts, triP t n
instance (n : Nat) (ts : List (List Int)) : Decidable (meshP n ts) := inferInstanceAs (Decidable (_ ∧ _))
theorem getD_of {t : List Int} {i : Nat} {x : Int} (h : t[i]? = some x) : t.getD i 0 = x := by rw [List.getD_eq_getElem?_getD, h]; rfl
theorem triP_of {t : List Int} {n a b c : Int} (hl : t.length = 3) (ha : t[0]? = some a) (hb : t[1]? = some b) (hc : t[2]? = some c) (h1 : a ≠ b) (h2 : b ≠ c) (h3 : a ≠ c) (h : ∀ p ∈ t, inP p n) : triP t n := by
  unfold triP
  rw [getD_of ha, getD_of hb, getD_of hc]
  exact ⟨hl, h1, h2, h3, h a (List.mem_of_getElem? ha), h b (List.mem_of_getElem? hb), h c (List.mem_of_getElem? hc)⟩
theorem triP_all {t : List Int} {n : Int} (h : triP t n) : ∀ p ∈ t, inP p n := by
  obtain ⟨hl, _, _, _, h0, h1, h2⟩ := h
  match t, hl with
  | [a, b, c], _ =>
    intro p hp
    simp only [List.mem_cons, List.not_mem_nil, or_false] at hp
    rcases hp with rfl | rfl | rfl
    · exact h0
    · exact h1
    · exact h2
theorem all_take {α : Type} {p : α → Prop} {xs : List α} {i : Nat} {x : α} (h : ∀ t ∈ xs.take i, p t) (hx : xs[i]? = some x) (hp : p x) : ∀ t ∈ xs.take (i + 1), p t := by
  intro t ht
  rw [take_step hx, List.mem_append] at ht
  rcases ht with ht | ht
  · exact h t ht
  · simp only [List.mem_singleton] at ht; subst ht; exact hp
end Go.Ab

namespace Go.Ab
def rowE (t : List Int) : List (Int × Int) :=
  [(min (t.getD 0 0) (t.getD 1 0), max (t.getD 0 0) (t.getD 1 0)), (min (t.getD 1 0) (t.getD 2 0), max (t.getD 1 0) (t.getD 2 0)), (min (t.getD 2 0) (t.getD 0 0), max (t.getD 2 0) (t.getD 0 0))]
def allE (ts : List (List Int)) : List (Int × Int) := ts.flatMap rowE
def edgesFrom (S : List (Int × Int)) (a b n : Nat) : List (Int × Int) := ((List.range' b (n - b)).filter fun (b : Nat) => decide (((a : Int), (b : Int)) ∈ S)).map fun (b : Nat) => ((a : Int), (b : Int))
/-- All edges, in ascending order. -/
def edgeList (n : Nat) (ts : List (List Int)) : List (Int × Int) := (List.range n).flatMap fun a => edgesFrom (allE ts) a (a + 1) n
theorem rowE_get {t : List Int} {k : Nat} {x y : Int} (hk : k < 3) (hx : t[k]? = some x) (hy : t[(k + 1) % 3]? = some y) : (rowE t)[k]? = some (min x y, max x y) := by
  have h1 := getD_of hx
  have h2 := getD_of hy
  match k, hk with
  | 0, _ => simp only [rowE, List.getElem?_cons_zero, ← h1, ← h2]
  | 1, _ => simp only [rowE, List.getElem?_cons_succ, List.getElem?_cons_zero, ← h1, ← h2]
  | 2, _ => simp only [rowE, List.getElem?_cons_succ, List.getElem?_cons_zero, ← h1, ← h2]
theorem rowE_len (t : List Int) : (rowE t).length = 3 := rfl
theorem idx_in {p q n : Int} (hp : 0 ≤ p ∧ p < n) (hq : 0 ≤ q ∧ q < n) : (0 ≤ p * n ∧ p * n + q < n * n) := by
  have h1 : 0 ≤ p * n := Int.mul_nonneg hp.1 (by omega)
  have h2 : (p + 1) * n ≤ n * n := Int.mul_le_mul_of_nonneg_right (by omega) (by omega)
  rw [Int.add_mul, Int.one_mul] at h2
  omega
/-- The table of the edges of S. -/
def Seen (n : Nat) (S : List (Int × Int)) (o : List Bool) : Prop := o.length = n * n ∧ ∀ a b : Nat, a < n → b < n → o[a * n + b]? = some (decide (((a : Int), (b : Int)) ∈ S))
theorem Seen.start (n : Nat) : Seen n [] (List.replicate (n * n) false) := by
  refine ⟨by simp, fun a b ha hb => ?_⟩
  have h2 : (a + 1) * n ≤ n * n := Nat.mul_le_mul_right _ ha
  rw [Nat.add_mul, Nat.one_mul] at h2
  rw [List.getElem?_replicate, if_pos (by omega)]
  simp
theorem Seen.step {n : Nat} {S : List (Int × Int)} {o : List Bool} {p q : Int} (h : Seen n S o) (hp : 0 ≤ p ∧ p < n) (hq : 0 ≤ q ∧ q < n) : Seen n (S ++ [(p, q)]) (o.set (p * (n : Int) + q).toNat true) := by
  obtain ⟨hl, h⟩ := h
  refine ⟨by simp [hl], fun a b ha hb => ?_⟩
  obtain ⟨p', rfl⟩ := Int.eq_ofNat_of_zero_le hp.1
  obtain ⟨q', rfl⟩ := Int.eq_ofNat_of_zero_le hq.1
  have hi : ((p' : Int) * (n : Int) + (q' : Int)).toNat = p' * n + q' := by
    rw [show ((p' : Int) * (n : Int) + (q' : Int)) = ((p' * n + q' : Nat) : Int) by simp]
    exact Int.toNat_natCast _
  have hp2 : p' < n := by omega
  have hq2 : q' < n := by omega
  rw [hi, List.getElem?_set]
  by_cases he : p' * n + q' = a * n + b
  · have hpa : p' = a ∧ q' = b := by
      have h1 : (p' * n + q') / n = p' := by rw [Nat.mul_comm, Nat.mul_add_div (by omega), Nat.div_eq_of_lt hq2]; rfl
      have h2 : (a * n + b) / n = a := by rw [Nat.mul_comm, Nat.mul_add_div (by omega), Nat.div_eq_of_lt hb]; rfl
      have h3 : p' = a := by rw [← h1, ← h2, he]
      subst h3; exact ⟨rfl, by omega⟩
    obtain ⟨rfl, rfl⟩ := hpa
    have h2 : (p' + 1) * n ≤ n * n := Nat.mul_le_mul_right _ hp2
    rw [Nat.add_mul, Nat.one_mul] at h2
    rw [if_pos rfl, if_pos (by omega)]
    simp
  · rw [if_neg he, h a b ha hb]
    congr 2
    simp only [List.mem_append, List.mem_singleton, Prod.mk.injEq, Int.natCast_inj, eq_iff_iff]
    constructor
    · exact .inl
    · rintro (h | ⟨rfl, rfl⟩)
      · exact h
      · exact absurd rfl he
theorem edgesFrom_end (S : List (Int × Int)) (a n : Nat) : edgesFrom S a n n = [] := by simp [edgesFrom]
theorem edgesFrom_step {S : List (Int × Int)} {a b n : Nat} (h : b < n) : edgesFrom S a b n = (if ((a : Int), (b : Int)) ∈ S then [((a : Int), (b : Int))] else []) ++ edgesFrom S a (b + 1) n := by
  unfold edgesFrom
  rw [show n - b = (n - (b + 1)) + 1 by omega, List.range'_succ, List.filter_cons]
  by_cases hs : ((a : Int), (b : Int)) ∈ S
  · rw [if_pos (by simpa using hs), if_pos hs]; rfl
  · rw [if_neg (by simpa using hs), if_neg hs]; rfl
theorem edgesFrom_le (S : List (Int × Int)) (a b n : Nat) : (edgesFrom S a b n).length ≤ n - b := by
  unfold edgesFrom
  rw [List.length_map]
  exact Nat.le_trans (List.length_filter_le _ _) (by simp)
theorem edges_part (S : List (Int × Int)) (n : Nat) : ∀ a, ((List.range a).flatMap fun a => edgesFrom S a (a + 1) n).length ≤ a * n
  | 0 => by simp
  | a + 1 => by
    rw [List.range_succ, List.flatMap_append, List.length_append, Nat.succ_mul]
    have h1 := edges_part S n a
    have h2 := edgesFrom_le S a (a + 1) n
    simp only [List.flatMap_cons, List.flatMap_nil, List.append_nil]
    omega
theorem edges_len (S : List (Int × Int)) (n a : Nat) (hn : n ≤ 64) (ha : a < n) : ((List.range a).flatMap fun a => edgesFrom S a (a + 1) n).length + (edgesFrom S a (a + 1) n).length ≤ 4160 := by
  have h1 := edges_part S n a
  have h2 := edgesFrom_le S a (a + 1) n
  have h3 : a * n ≤ 64 * 64 := Nat.mul_le_mul (by omega) hn
  omega
/-- The length of an edge. -/
def elen (ps : List V3) (e : Int × Int) : Nat := vlong (vsub (ps.getD e.1.toNat v0) (ps.getD e.2.toNat v0))
theorem elen_of {ps : List V3} {e : Int × Int} {p q : V3} (hp : ps[e.1.toNat]? = some p) (hq : ps[e.2.toNat]? = some q) : elen ps e = vlong (vsub p q) := by
  unfold elen; rw [List.getD_eq_getElem?_getD, hp, List.getD_eq_getElem?_getD, hq]; rfl
def pairL (e : Int × Int) : List Int := [e.1, e.2]
theorem edge_in {n : Nat} {ts : List (List Int)} {e : Int × Int} (h : e ∈ edgeList n ts) : 0 ≤ e.1 ∧ e.1 < e.2 ∧ e.2 < n := by
  unfold edgeList edgesFrom at h
  simp only [List.mem_flatMap, List.mem_range, List.mem_map, List.mem_filter, List.mem_range'_1] at h
  obtain ⟨a, ha, b, ⟨hb, _⟩, rfl⟩ := h
  dsimp only
  omega
theorem edge_row {n : Nat} {ts : List (List Int)} {qs : List Row} {i : Nat} {x : Row} (hm : qs.map Row.xs = (edgeList n ts).map pairL) (hx : qs[i]? = some x) : ∃ e, (edgeList n ts)[i]? = some e ∧ x.xs = [e.1, e.2] ∧ 0 ≤ e.1 ∧ e.1 < e.2 ∧ e.2 < n := by
  have h1 := map_get (f := Row.xs) hx
  rw [hm, List.getElem?_map] at h1
  cases he : (edgeList n ts)[i]? with
  | none => rw [he] at h1; cases h1
  | some e =>
    rw [he] at h1
    simp only [Option.map_some, Option.some.injEq] at h1
    exact ⟨e, rfl, h1.symm, edge_in (List.mem_of_getElem? he)⟩
theorem edgeList_len (n : Nat) (ts : List (List Int)) (hn : n ≤ 64) : (edgeList n ts).length ≤ 4096 := by
  have h1 := edges_part (allE ts) n n
  have h3 : n * n ≤ 64 * 64 := Nat.mul_le_mul hn hn
  unfold edgeList
  omega
/-- The thread of an edge. -/
def thrOf (ps : List V3) (e : Int × Int) : Thr := ⟨e.1, e.2, elen ps e⟩
/-- A mesh has a cloth. -/
def clothP (ps : List V3) (ts : List (List Int)) : Prop := meshP ps.length ts ∧ (edgeList ps.length ts).length ≤ 256 ∧ ∀ e ∈ edgeList ps.length ts, over32 (elen ps e) = true
/-- A new cloth. -/
def NewCloth (tv tt ti : Nat) (H0 H : AH) (r : Value) (ps os : List V3) (ts : List Thr) (ns : List Int) : Prop :=
  ∃ pa pc oa oc ta tc na nc, r = .agg #[.slice pa ps.length pc, .slice oa os.length oc, .slice ta ts.length tc, .slice na ns.length nc] ∧
    (FreshS H0 pa ∧ Ows H encV tv 3 pa pc ps) ∧ (FreshS H0 oa ∧ Ows H encV tv 3 oa oc os) ∧ (FreshS H0 ta ∧ Ows H encT tt 3 ta tc ts) ∧ (FreshS H0 na ∧ Ows H encI ti 1 na nc ns) ∧ Sep pa oa
def noCloth : Value := .agg #[.slice none 0 0, .slice none 0 0, .slice none 0 0, .slice none 0 0]
def thrP (n : Nat) (t : Thr) : Prop := inP t.A n ∧ inP t.B n ∧ t.A ≠ t.B ∧ over32 t.Long = true
instance (n : Nat) (t : Thr) : Decidable (thrP n t) := inferInstanceAs (Decidable (_ ∧ _))
def cloP (n m : Nat) (th : List Thr) : Prop := n ≤ 64 ∧ m = n ∧ th.length ≤ 256 ∧ ∀ t ∈ th, thrP n t
instance (n m : Nat) (th : List Thr) : Decidable (cloP n m th) := inferInstanceAs (Decidable (_ ∧ _))
theorem cloP_iff {ps : List V3} {ts : List (List Int)} (hm : meshP ps.length ts) : cloP ps.length ps.length ((edgeList ps.length ts).map (thrOf ps)) ↔ clothP ps ts := by
  constructor
  · intro h
    refine ⟨hm, by have := h.2.2.1; rwa [List.length_map] at this, fun e he => ?_⟩
    exact (h.2.2.2 _ (List.mem_map.2 ⟨e, he, rfl⟩)).2.2.2
  · intro h
    refine ⟨hm.1, rfl, by rw [List.length_map]; exact h.2.1, fun t ht => ?_⟩
    obtain ⟨e, he, rfl⟩ := List.mem_map.1 ht
    have h1 := edge_in he
    refine ⟨?_, ?_, ?_, h.2.2 e he⟩ <;> simp only [thrOf, inP] <;> omega
end Go.Ab

namespace Go.Ab
/-- In the blocks fp lies what P tells of; it holds wherever these blocks are as they are. -/
def Owned (H : AH) (fp : Nat → Prop) (P : AH → Prop) : Prop := (∀ b, fp b → (H b).isSome = true) ∧ ∀ H', (∀ b blk, fp b → H b = some blk → H' b = some blk) → P H'
def FreshF (H : AH) (fp : Nat → Prop) : Prop := ∀ b, fp b → H b = none
def orF (f g : Nat → Prop) : Nat → Prop := fun b => f b ∨ g b
def ofS (a : Option Addr) : Nat → Prop := fun b => blockS a = some b
section
variable {H H' H0 : AH} {fp fq : Nat → Prop} {P Q : AH → Prop}
theorem Owned.get (h : Owned H fp P) : P H := h.2 H fun _ _ _ hb => hb
theorem Owned.keepP {S : Nat → Prop} (h : Owned H fp P) (k : KeepP S H H') (hd : ∀ b, fp b → ¬ S b) : Owned H' fp P := by
  refine ⟨fun b hb => ?_, fun H2 h2 => h.2 H2 fun b blk hb hbl => h2 b blk hb (k b blk (hd b hb) hbl)⟩
  obtain ⟨blk, hbl⟩ := Option.isSome_iff_exists.1 (h.1 b hb)
  rw [k b blk (hd b hb) hbl]; rfl
theorem Owned.keep (h : Owned H fp P) (k : Keep H H') : Owned H' fp P := h.keepP (S := fun _ => False) (fun c blk _ hc => k c blk hc) fun _ _ hf => hf
theorem Owned.apart (h : Owned H fp P) (hf : FreshF H fq) : ∀ b, fp b → ¬ fq b := fun b hb hq => by have := h.1 b hb; rw [hf b hq] at this; cases this
theorem apart_symm (h : ∀ b, fp b → ¬ fq b) : ∀ b, fq b → ¬ fp b := fun b hq hp => h b hp hq
theorem Owned.and (h : Owned H fp P) (g : Owned H fq Q) : Owned H (orF fp fq) fun H => P H ∧ Q H :=
  ⟨fun b hb => hb.elim (h.1 b) (g.1 b), fun H2 h2 => ⟨h.2 H2 fun b blk hb => h2 b blk (.inl hb), g.2 H2 fun b blk hb => h2 b blk (.inr hb)⟩⟩
theorem Owned.mono (h : Owned H fp P) (hq : ∀ H, P H → Q H) : Owned H fp Q := ⟨h.1, fun H2 h2 => hq H2 (h.2 H2 h2)⟩
theorem FreshF.old (h : FreshF H fp) (k : Keep H0 H) : FreshF H0 fp := fun b hb => k.none (h b hb)
theorem FreshF.or (h : FreshF H fp) (g : FreshF H fq) : FreshF H (orF fp fq) := fun b hb => hb.elim (h b) (g b)
theorem FreshS.toF {a : Option Addr} (h : FreshS H a) : FreshF H (ofS a) := h
theorem Ows.owned {α : Type} {enc : α → List Value} {e sz c : Nat} {a : Option Addr} {xs : List α} (h : Ows H enc e sz a c xs) : Owned H (ofS a) fun H => Ows H enc e sz a c xs := by
  refine ⟨fun b hb => ?_, fun H2 h2 => ⟨h.1, ?_⟩⟩
  · rcases h.cases with ⟨h1, _⟩ | ⟨b', h1, h2, _⟩
    · subst h1; simp [ofS, blockS] at hb
    · subst h1; simp only [ofS, blockS, Option.map_some, Option.some.injEq] at hb; subst hb; rw [h2]; rfl
  · rcases h.2 with h3 | ⟨b, cap, h3, h4, h5⟩
    · exact .inl h3
    · refine .inr ⟨b, cap, h3, h2 b _ ?_ h4, h5⟩
      injection h3 with h3; rw [h3]; rfl
theorem KeepL.toP {L : List (Option Addr)} (k : KeepL L H H') : KeepP (fun b => ∃ a ∈ L, blockS a = some b) H H' := fun c blk hc h => k c blk (fun a ha e => hc ⟨a, ha, e⟩) h
theorem KeepP.mono {S T : Nat → Prop} (k : KeepP S H H') (h : ∀ b, S b → T b) : KeepP T H H' := fun c blk hc hb => k c blk (fun hs => hc (h c hs)) hb
theorem Keep.transP {H1 H2 : AH} {S : Nat → Prop} (k : Keep H H1) (hf : FreshF H S) (x : KeepP S H1 H2) : Keep H H2 := fun c blk h => x c blk (fun hs => by rw [hf c hs] at h; cases h) (k c blk h)
end
/-- A list of rows of one's own. -/
def RowsF (qs : List Row) : Nat → Prop := fun b => ∃ q ∈ qs, blockS q.a = some b
theorem OwnRows.owned {e : Nat} {H0 H : AH} {qs : List Row} (h : OwnRows e H0 H qs) : Owned H (RowsF qs) fun H => ∀ q ∈ qs, Ows H encI e 1 q.a q.c q.xs := by
  refine ⟨fun b ⟨q, hq, hb⟩ => (h q hq).2.owned.1 b hb, fun H2 h2 q hq => ?_⟩
  exact (h q hq).2.owned.2 H2 fun b blk hb => h2 b blk ⟨q, hq, hb⟩
theorem OwnRows.freshF {e : Nat} {H0 H : AH} {qs : List Row} (h : OwnRows e H0 H qs) : FreshF H0 (RowsF qs) := fun b ⟨q, hq, hb⟩ => (h q hq).1 b hb
end Go.Ab

namespace Go.Ab
def icmp (x y : Int) : Int := if x < y then -1 else if y < x then 1 else 0
def ecmp (e f : Int × Int) : Int := if icmp e.1 f.1 ≠ 0 then icmp e.1 f.1 else icmp e.2 f.2
theorem sls_box {α : Type} {H : AH} {enc : α → List Value} {b e room : Nat} {o : Bool} {l : List Value} {xs : List α} (hb : H b = some (.cells l e o room)) (hl : xs.flatMap enc = l) : Sls H enc (some ⟨b, 0, none⟩) xs :=
  .inr ⟨b, 0, [], [], e, o, room, rfl, by rw [hb, ← hl]; simp, rfl⟩
theorem dv_slice0 {P : Program} {env : Env} {H : AH} {t : TypeId} {x : Operand} {a v : Value} (hx : env.ev x = a) (h : dslice P t none none a = some v) : dval P (.slice t x none none none) env H = some v := by
  simp only [dval, hx, Option.map_none, h]
theorem icmp_r (x y : Int) : -1 ≤ icmp x y ∧ icmp x y ≤ 1 := by unfold icmp; split <;> (try split) <;> omega
end Go.Ab

namespace Go.Ab
theorem run_checkPair {P : Program} (w : World) {t e : TypeId} (hu : P.underlying t = some (.array 2 e)) (he : P.underlying e = some (.int .i64)) (hz : tsz P e = some 1) (ha : tagg P e = some false) (em : Bool) (n : Nat) (a b : Int) :
    (Instr.checkKey em (n + 2) t (.agg #[.int .i64 a, .int .i64 b])).run P w = .ok () w := by
  have h0 : (part e #[.int .i64 a, .int .i64 b] 0).run P w = .ok (.int .i64 a) w := by
    simp only [part, Sem.run_bind, tagg_run ha, Result.andThen_ok]; rfl
  have h1 : (part e #[.int .i64 a, .int .i64 b] 1).run P w = .ok (.int .i64 b) w := by
    simp only [part, Sem.run_bind, tagg_run ha, Result.andThen_ok]; rfl
  unfold Instr.checkKey
  simp [run_underlying hu, Std.Legacy.Range.forIn_eq_forIn_range', List.range', tsz_run hz, h0, h1, Instr.checkKey, run_underlying he]
theorem run_equalPairN {P : Program} (w : World) (n : Nat) {t e : TypeId} (hu : P.underlying t = some (.array 2 e)) (he : P.underlying e = some (.int .i64)) (hz : tsz P e = some 1) (ha : tagg P e = some false) (a b c d : Int) :
    (Op.equalIn (n + 2) t (.agg #[.int .i64 a, .int .i64 b]) (.agg #[.int .i64 c, .int .i64 d])).run P w = .ok (decide (a = c ∧ b = d)) w := by
  have h0 : ∀ a b : Int, (part e #[.int .i64 a, .int .i64 b] 0).run P w = .ok (.int .i64 a) w := fun a b => by
    simp only [part, Sem.run_bind, tagg_run ha, Result.andThen_ok]; rfl
  have h1 : ∀ a b : Int, (part e #[.int .i64 a, .int .i64 b] 1).run P w = .ok (.int .i64 b) w := fun a b => by
    simp only [part, Sem.run_bind, tagg_run ha, Result.andThen_ok]; rfl
  have hi : ∀ a c : Int, (Op.equalIn (n + 1) e (.int .i64 a) (.int .i64 c)).run P w = .ok (a == c) w := fun a c => by
    simp [Op.equalIn, run_underlying he]
  unfold Op.equalIn
  by_cases hac : a = c <;> by_cases hbd : b = d <;> simp [run_underlying hu, Std.Legacy.Range.forIn_eq_forIn_range', List.range', tsz_run hz, h0, h1, hi, hac, hbd]
theorem run_equalPair {P : Program} (w : World) {t e : TypeId} (hu : P.underlying t = some (.array 2 e)) (he : P.underlying e = some (.int .i64)) (hz : tsz P e = some 1) (ha : tagg P e = some false) (a b c d : Int) :
    (Op.equal t (.agg #[.int .i64 a, .int .i64 b]) (.agg #[.int .i64 c, .int .i64 d])).run P w = .ok (decide (a = c ∧ b = d)) w :=
  run_equalPairN w 9998 hu he hz ha a b c d
def keyV (e : Int × Int) : Value := .agg #[.int .i64 e.1, .int .i64 e.2]
theorem run_findPair {P : Program} (w : World) {t e : TypeId} (hu : P.underlying t = some (.array 2 e)) (he : P.underlying e = some (.int .i64)) (hz : tsz P e = some 1) (ha : tagg P e = some false) (x : Int × Int) :
    ∀ (es : List MapEntry) (ks : List (Int × Int)) (i : Nat), es.map (·.key) = ks.map keyV → ∃ r, (Instr.findAsking t (keyV x) es i).run P w = .ok r w ∧
      ((r = none ∧ x ∉ ks) ∨ ∃ j m, r = some (i + j, m.val) ∧ es[j]? = some m ∧ ks[j]? = some x ∧ x ∉ ks.take j)
  | [], ks, i, h => by
    cases ks with
    | nil => exact ⟨none, rfl, .inl ⟨rfl, by simp⟩⟩
    | cons k ks => simp at h
  | m :: es, [], i, h => by simp at h
  | m :: es, k :: ks, i, h => by
    simp only [List.map_cons, List.cons.injEq] at h
    have hq := run_equalPair (P := P) w hu he hz ha x.1 x.2 k.1 k.2
    by_cases hxk : x.1 = k.1 ∧ x.2 = k.2
    · have hxk' : x = k := Prod.ext hxk.1 hxk.2
      refine ⟨some (i, m.val), ?_, .inr ⟨0, m, rfl, rfl, by simp [hxk'], by simp⟩⟩
      unfold Instr.findAsking
      rw [decide_eq_true hxk] at hq
      simp only [Sem.run_bind, h.1, keyV, hq, Result.andThen_ok, if_true, Sem.run_pure]
    · obtain ⟨r, h1, h2⟩ := run_findPair w hu he hz ha x es ks (i + 1) h.2
      have hne : x ≠ k := fun e => hxk (by rw [e]; exact ⟨rfl, rfl⟩)
      refine ⟨r, ?_, ?_⟩
      · unfold Instr.findAsking
        rw [decide_eq_false hxk] at hq
        simp only [Sem.run_bind, h.1, keyV, hq, Result.andThen_ok, Bool.false_eq_true, if_false]
        exact h1
      · rcases h2 with ⟨rfl, h3⟩ | ⟨j, m', rfl, h3, h4, h5⟩
        · exact .inl ⟨rfl, by simp [hne, h3]⟩
        · exact .inr ⟨j + 1, m', by congr 2; omega, h3, h4, by simp [hne, h5]⟩
theorem run_findKeyPair {P : Program} (w : World) {t e : TypeId} (hu : P.underlying t = some (.array 2 e)) (x : Value) (es : List MapEntry) : (Instr.findKey t x es).run P w = (Instr.findAsking t x es).run P w :=
  run_findKey_eq w (by rw [hu]) x es
theorem cv_keyV {u : Value} {x : Int × Int} (h : cv u = keyV x) : u = keyV x := by
  obtain ⟨cs, rfl, hcs⟩ := cv_isagg h
  unfold keyV
  congr 1
  apply Array.ext'
  have hl : cs.toList.map cv1 = [.int .i64 x.1, .int .i64 x.2] := by rw [← Array.toList_map, hcs]
  revert hl
  generalize cs.toList = l
  intro hl
  match l, hl with
  | [p, q], hl =>
    simp only [List.map_cons, List.map_nil, List.cons.injEq, and_true] at hl
    rw [cv1_plain hl.1 rfl, cv1_plain hl.2 rfl]
  | [], hl => simp at hl
  | [p], hl => simp at hl
  | p :: q :: r :: l, hl => simp at hl
theorem AOp_lookup {P : Program} {N : Nat} {o : Oper} {env : Env} {H : AH} {K : Env → AH → Prop} {t kt et e r clock : Nat} {m k : Operand} {x : Int × Int} {es : List MapEntry} {ks : List (Int × Int)} {z : Value} (hd : ∀ d, o.dst = some d → d < N)
    (ho : o.op = .lookup t m k false) (ht : tmap P t = some (kt, et)) (hu : P.underlying kt = some (.array 2 e)) (he : P.underlying e = some (.int .i64)) (hz : tsz P e = some 1) (ha : tagg P e = some false)
    (hm : env.ev m = .map (some r)) (hk : env.ev k = keyV x) (hH : H r = some (.map es clock)) (hks : es.map (·.key) = ks.map keyV) (hzv : tzero P et = some z) (hzp : cv z = z) (hv : ∀ y ∈ es, ∃ a n c, y.val = .slice a n c)
    (h1 : x ∉ ks → K (put env o.dst z) H) (h2 : ∀ j y, es[j]? = some y → ks[j]? = some x → x ∉ ks.take j → K (put env o.dst y.val) H) : AOp P N o env H K := by
  intro a w rl
  have hρ : ∀ z, cv (a.eval z) = env.ev z := fun z => by rw [← ev_envOf, rl.env]
  have hm' : a.eval m = .map (some r) := cv_plain ((hρ m).trans hm) rfl
  have hk' : a.eval k = keyV x := cv_keyV ((hρ k).trans hk)
  obtain ⟨ces, hces, hcv⟩ := rl.hr.map hH
  have hkeys : ces.toList.map (·.key) = ks.map keyV := by rw [← hks, ← hcv, List.map_map]; rfl
  obtain ⟨res, hrun, hres⟩ := run_findPair (P := P) w hu he hz ha x ces.toList ks 0 hkeys
  have hchk := run_checkPair (P := P) w hu he hz ha ces.isEmpty 9998 x.1 x.2
  have hget : (getObj r).run P w = .ok (.map ces clock) w := run_getObj_map w r ces clock hces
  have hlook : ∀ v, (match res with | some (_, v) => (v, true) | none => (z, false)).1 = v → (Instr.lookup t (.map (some r)) (keyV x) false).run P w = .ok v w := by
    intro v hv
    unfold Instr.lookup
    simp only [Sem.run_bind, run_underlying (tmap_u ht), Result.andThen_ok, hget, Sem.run_pure]
    have hc2 : (Instr.checkKey ces.isEmpty 10000 kt (keyV x)).run P w = .ok () w := hchk
    rw [hc2]
    simp only [Result.andThen_ok, run_findKeyPair w hu, hrun]
    cases res with
    | none => simp only [Result.andThen_ok, Sem.run_bind, tzero_run hzv, Sem.run_pure]; simp only at hv; rw [hv]; rfl
    | some p => simp only [Result.andThen_ok, Sem.run_bind, Sem.run_pure]; simp only at hv; rw [hv]; rfl
  have fin : ∀ u v, (Instr.lookup t (.map (some r)) (keyV x) false).run P w = .ok u w → cv u = v → K (put env o.dst v) H → o.wp P a w (To N H w K) (fun _ _ _ => False) := by
    intro u v hr hc hK
    unfold Oper.wp
    have : (execOp a.eval o).run P w = .ok (.value u) w := by unfold execOp; rw [ho]; dsimp only; rw [hm', hk']; exact wrapV hr
    rw [this]
    have r2 := rl.put hd u
    rw [hc] at r2
    exact ⟨_, H, hK, r2, L.refl _ _⟩
  rcases hres with ⟨rfl, hn⟩ | ⟨j, y, rfl, hy, hj, hnj⟩
  · exact fin z z (hlook z rfl) hzp (h1 hn)
  · have hy2 : es[j]? = some (cvE y) := by rw [← hcv, List.getElem?_map, hy]; rfl
    obtain ⟨p, n, c, hyv⟩ := hv (cvE y) (List.mem_of_getElem? hy2)
    have hyv' : y.val = .slice p n c := by
      have : cv2 y.val = .slice p n c := hyv
      cases hv : y.val <;> rw [hv] at this <;> simp_all [cv2, cv1]
    exact fin y.val (cvE y).val (hlook _ rfl) (by rw [hyv, hyv']; rfl) (h2 j _ hy2 hj hnj)
theorem run_keyStays {P : Program} (w : World) (k : Value) : ∃ n, (Instr.keyThatStays k k).run P w = .ok k (w.drewN n) := by
  unfold Instr.keyThatStays
  by_cases h : Instr.sameBits 10000 k k = true
  · exact ⟨0, by simp [h]; rfl⟩
  · refine ⟨1, ?_⟩
    have hf : (Question.extern "map.whichKeyStays" 2).forced = false := by decide
    simp only [h]
    simp [choose, Sem.run, World.drewN, hf]
theorem HR_map {H : AH} {w : World} (h : HR H w) {r clock : Nat} {es0 : List MapEntry} {c0 : Nat} {ces : Array MapEntry} (hH : H r = some (.map es0 c0)) : HR (upd H r (some (.map (ces.toList.map cvE) clock))) { w with heap := w.heap.setIfInBounds r (.map ces clock) } := by
  intro b blk hb
  have hlt := h.lt hH
  unfold upd at hb
  split at hb
  · rename_i he; subst he
    injection hb with hb; subst hb
    exact ⟨.map ces clock, by simp [hlt], rfl, rfl⟩
  · rename_i hne
    obtain ⟨o, ho, hR⟩ := h b blk hb
    exact ⟨o, by simp only [Array.getElem?_setIfInBounds_ne (Ne.symm hne)]; exact ho, hR⟩
theorem L_map {H : AH} {w : World} {r : Nat} {es0 : List MapEntry} {c0 : Nat} {o : Obj} {blk : Blk} (hH : H r = some (.map es0 c0)) : L H w (upd H r (some blk)) { w with heap := w.heap.setIfInBounds r o } :=
  ⟨rfl, rfl, rfl, by simp, Nat.le_refl _, fun b _ hn => by
      have hne : b ≠ r := fun e => by rw [e, hH] at hn; cases hn
      exact ⟨by simp only [Array.getElem?_setIfInBounds_ne (Ne.symm hne)], by rw [upd_ne _ _ hne]; exact hn⟩,
    fun b l e room hb => by
      have hne : b ≠ r := fun ee => by rw [ee, hH] at hb; cases hb
      exact ⟨by simp only [Array.getElem?_setIfInBounds_ne (Ne.symm hne)], upd_ne _ _ hne⟩⟩
theorem AOp_mapEntry {P : Program} {N : Nat} {o : Oper} {env : Env} {H : AH} {K : Env → AH → Prop} {t kt et e r clock : Nat} {m k : Operand} {x : Int × Int} {es : List MapEntry} {ks : List (Int × Int)} {z : Value} (hd : ∀ d, o.dst = some d → d < N)
    (ho : o.op = .mapEntry t m k) (ht : tmap P t = some (kt, et)) (hu : P.underlying kt = some (.array 2 e)) (he : P.underlying e = some (.int .i64)) (hz : tsz P e = some 1) (ha : tagg P e = some false)
    (hm : env.ev m = .map (some r)) (hk : env.ev k = keyV x) (hH : H r = some (.map es clock)) (hks : es.map (·.key) = ks.map keyV) (hzv : tzero P et = some z) (hzp : cv2 z = z) (hv : ∀ y ∈ es, ∃ a n c, y.val = .slice a n c)
    (h1 : x ∉ ks → K (put env o.dst (.tuple #[z, .int .i64 clock])) (upd H r (some (.map (es ++ [⟨keyV x, z, clock⟩]) (clock + 1)))))
    (h2 : ∀ j y, es[j]? = some y → ks[j]? = some x → x ∉ ks.take j → K (put env o.dst (.tuple #[y.val, .int .i64 y.born])) (upd H r (some (.map es clock)))) : AOp P N o env H K := by
  intro a w rl
  have hρ : ∀ z, cv (a.eval z) = env.ev z := fun z => by rw [← ev_envOf, rl.env]
  have hm' : a.eval m = .map (some r) := cv_plain ((hρ m).trans hm) rfl
  have hk' : a.eval k = keyV x := cv_keyV ((hρ k).trans hk)
  obtain ⟨ces, hces, hcv⟩ := rl.hr.map hH
  have hkeys : ces.toList.map (·.key) = ks.map keyV := by rw [← hks, ← hcv, List.map_map]; rfl
  obtain ⟨res, hrun, hres⟩ := run_findPair (P := P) w hu he hz ha x ces.toList ks 0 hkeys
  have hchk : (Instr.checkKey false 10000 kt (keyV x)).run P w = .ok () w := run_checkPair (P := P) w hu he hz ha false 9998 x.1 x.2
  have hget : (getObj r).run P w = .ok (.map ces clock) w := run_getObj_map w r ces clock hces
  have hset : ∀ (n : Nat) (ob : Obj), (setObj r ob).run P (w.drewN n) = .ok () { (w.drewN n) with heap := w.heap.setIfInBounds r ob } := fun n ob => by
    simp [setObj, Sem.run, hces]
  have hset0 : ∀ (ob : Obj), (setObj r ob).run P w = .ok () { (w.drewN 0) with heap := w.heap.setIfInBounds r ob } := fun ob => hset 0 ob
  have fin : ∀ u v (n : Nat) (ces' : Array MapEntry) (c' : Nat), (Instr.mapEntry t (.map (some r)) (keyV x)).run P w = .ok u { (w.drewN n) with heap := w.heap.setIfInBounds r (.map ces' c') } → cv u = v → K (put env o.dst v) (upd H r (some (.map (ces'.toList.map cvE) c'))) → o.wp P a w (To N H w K) (fun _ _ _ => False) := by
    intro u v n ces' c' hr hc hK
    unfold Oper.wp
    have : (execOp a.eval o).run P w = .ok (.value u) { (w.drewN n) with heap := w.heap.setIfInBounds r (.map ces' c') } := by unfold execOp; rw [ho]; dsimp only; rw [hm', hk']; exact wrapV hr
    rw [this]
    have r2 := rl.put hd u
    rw [hc] at r2
    exact ⟨_, _, hK, ⟨r2.env, r2.size, r2.defers, HR_map (w := w.drewN n) (HR.drewN rl.hr n) hH⟩, (L.drewN H w n).trans (L_map (w := w.drewN n) hH)⟩
  rcases hres with ⟨rfl, hn⟩ | ⟨j, y, rfl, hy, hj, hnj⟩
  · refine fin (.tuple #[z, goInt clock]) (.tuple #[z, .int .i64 clock]) 0 (ces.push { key := keyV x, val := z, born := clock }) (clock + 1) ?_ (by show Value.tuple (#[z, goInt clock].map cv2) = _; simp [hzp]; rfl) ?_
    · unfold Instr.mapEntry
      simp only [Sem.run_bind, run_underlying (tmap_u ht), Result.andThen_ok, hget, hchk, run_findKeyPair w hu, hrun, tzero_run hzv, hset0, Sem.run_pure]
    · have := h1 hn
      rw [← hcv] at this
      simpa [cvE, hzp] using this
  · have hjlt : j < ces.size := by have := get_lt hy; simpa using this
    have hyk : y.key = keyV x := by
      have h3 : (ces.toList.map (·.key))[j]? = some y.key := by rw [List.getElem?_map, hy]; rfl
      rw [hkeys, List.getElem?_map, hj] at h3; simpa using h3.symm
    have hcj : ces[j]? = some y := by rw [← Array.getElem?_toList]; exact hy
    obtain ⟨n, hst⟩ := run_keyStays (P := P) w (keyV x)
    have hy2 : es[j]? = some (cvE y) := by rw [← hcv, List.getElem?_map, hy]; rfl
    obtain ⟨p, q, c, hyv⟩ := hv (cvE y) (List.mem_of_getElem? hy2)
    have hyv' : y.val = .slice p q c := by
      have : cv2 y.val = .slice p q c := hyv
      cases hv : y.val <;> rw [hv] at this <;> simp_all [cv2, cv1]
    have hmod : (ces.modify j fun e => { e with key := keyV x }).toList.map cvE = es := by
      have he : (ces.modify j fun e => { e with key := keyV x }) = ces := by
        apply Array.ext (by simp)
        intro i h1 h2
        rw [Array.getElem_modify]
        split
        · rename_i hij; subst hij
          have hy3 : ces[j] = y := by rw [Array.getElem?_eq_getElem h2] at hcj; injection hcj
          rw [hy3, ← hyk]
        · rfl
      rw [he, hcv]
    refine fin (.tuple #[y.val, goInt y.born]) (.tuple #[(cvE y).val, .int .i64 (cvE y).born]) n (ces.modify j fun e => { e with key := keyV x }) clock ?_ (by rw [hyv]; simp [cv, hyv', goInt, cv2, cv1, cvE]) ?_
    · unfold Instr.mapEntry
      simp only [Sem.run_bind, run_underlying (tmap_u ht), Result.andThen_ok, hget, hchk, run_findKeyPair w hu, hrun, Nat.zero_add, hcj, Option.map_some, Option.getD_some, hyk, hst, hset, Sem.run_pure]
    · rw [hmod]; exact h2 j _ hy2 hj hnj
end Go.Ab

namespace Go.Ab
structure Ent where
  fp : Nat → Prop
  ok : AH → Prop
  loc : ∀ H H' : AH, ok H → (∀ b blk, fp b → H b = some blk → H' b = some blk) → ok H'
  live : ∀ H : AH, ok H → ∀ b, fp b → ∃ blk, H b = some blk
def box (b : Nat) (l : List Value) (ty : Nat) : Ent where
  fp x := x = b
  ok H := H b = some (.cells l ty true l.length)
  loc _ _ h k := k _ _ rfl h
  live _ h _ hx := ⟨_, hx ▸ h⟩
def sl {α : Type} (enc : α → List Value) (e sz : Nat) (a : Option Addr) (c : Nat) (xs : List α) : Ent where
  fp x := blockS a = some x
  ok H := Ows H enc e sz a c xs
  loc _ H' h k := h.owned.2 H' k
  live _ h b hb := Option.isSome_iff_exists.1 (h.owned.1 b hb)
def mapE (r : Nat) (es : List MapEntry) (clock : Nat) : Ent where
  fp x := x = r
  ok H := H r = some (.map es clock)
  loc _ _ h k := k _ _ rfl h
  live _ h _ hx := ⟨_, hx ▸ h⟩
def Apart (p q : Nat → Prop) : Prop := ∀ b, p b → ¬ q b
theorem Apart.symm {p q : Nat → Prop} (h : Apart p q) : Apart q p := fun b hq hp => h b hp hq
/-- Several things of one kind. -/
def manyE {β : Type} (f : β → Ent) (qs : List β) : Ent where
  fp x := ∃ q ∈ qs, (f q).fp x
  ok H := (∀ q ∈ qs, (f q).ok H) ∧ qs.Pairwise fun p q => Apart (f p).fp (f q).fp
  loc H H' h k := ⟨fun q hq => (f q).loc H H' (h.1 q hq) fun b blk hb => k b blk ⟨q, hq, hb⟩, h.2⟩
  live H h b := fun ⟨q, hq, hb⟩ => (f q).live H (h.1 q hq) b hb
def rowE1 (e : Nat) (q : Row) : Ent := sl encI e 1 q.a q.c q.xs
def rowsE (e : Nat) (qs : List Row) : Ent := manyE (rowE1 e) qs

structure SepL (H0 : AH) (L : List Ent) (H : AH) : Prop where
  keep : Keep H0 H
  ok : ∀ t ∈ L, t.ok H
  fresh : ∀ t ∈ L, ∀ b, t.fp b → H0 b = none
  apart : L.Pairwise fun s t => Apart s.fp t.fp
section
variable {H0 H H' : AH} {L M : List Ent} {t t' : Ent} {i : Nat}
theorem SepL.refl (H : AH) : SepL H [] H := ⟨Keep.refl H, by simp, by simp, .nil⟩
theorem SepL.up (h : SepL H0 L H) (k : Keep H H') : SepL H0 L H' :=
  ⟨h.keep.trans k, fun t ht => t.loc H H' (h.ok t ht) fun b blk _ hb => k b blk hb, h.fresh, h.apart⟩
theorem SepL.push (h : SepL H0 L H) (m : SepL H M H') : SepL H0 (L ++ M) H' := by
  refine ⟨h.keep.trans m.keep, fun t ht => ?_, fun t ht b hb => ?_, ?_⟩
  · rcases List.mem_append.1 ht with ht | ht
    · exact (h.up m.keep).ok t ht
    · exact m.ok t ht
  · rcases List.mem_append.1 ht with ht | ht
    · exact h.fresh t ht b hb
    · exact h.keep.none (m.fresh t ht b hb)
  · refine List.pairwise_append.2 ⟨h.apart, m.apart, fun s hs t ht b hb hb' => ?_⟩
    obtain ⟨blk, hbl⟩ := s.live H (h.ok s hs) b hb
    rw [m.fresh t ht b hb'] at hbl
    cases hbl
theorem SepL.at (h : SepL H0 L H) (hi : L[i]? = some t) : t.ok H := h.ok t (List.mem_of_getElem? hi)
theorem SepL.box (h : SepL H0 L H) {b ty : Nat} {l : List Value} (i : Nat) (hi : L[i]? = some (box b l ty)) : H b = some (.cells l ty true l.length) := h.at hi
theorem SepL.ows (h : SepL H0 L H) {α : Type} {enc : α → List Value} {e sz c : Nat} {a : Option Addr} {xs : List α} (i : Nat) (hi : L[i]? = some (sl enc e sz a c xs)) : Ows H enc e sz a c xs := h.at hi
theorem SepL.sls (h : SepL H0 L H) {α : Type} {enc : α → List Value} {e sz c : Nat} {a : Option Addr} {xs : List α} (i : Nat) (hi : L[i]? = some (sl enc e sz a c xs)) : Sls H enc a xs := (h.ows i hi).sls
theorem SepL.apartAt (h : SepL H0 L H) {j : Nat} {s : Ent} (hi : L[i]? = some s) (hj : L[j]? = some t) (hij : i ≠ j) : Apart s.fp t.fp := by
  obtain ⟨h1, rfl⟩ := List.getElem?_eq_some_iff.1 hi
  obtain ⟨h2, rfl⟩ := List.getElem?_eq_some_iff.1 hj
  have hp := List.pairwise_iff_getElem.1 h.apart
  rcases Nat.lt_or_gt_of_ne hij with h3 | h3
  · exact hp i j h1 h2 h3
  · exact (hp j i h2 h1 h3).symm
/-- One entry changed. -/
theorem SepL.put (h : SepL H0 L H) (i : Nat) (hi : L[i]? = some t) (k : KeepP t.fp H H') (hok : t'.ok H') (hfp : ∀ b, t'.fp b → t.fp b ∨ H b = none) : SepL H0 (L.set i t') H' := by
  have hin := (List.getElem?_eq_some_iff.1 hi).1
  have hold : ∀ j s, j ≠ i → L[j]? = some s → s.ok H' ∧ Apart t'.fp s.fp := by
    intro j s hj hs
    refine ⟨s.loc H H' (h.at hs) fun b blk hb hbl => k b blk (fun ht => h.apartAt hs hi hj b hb ht) hbl, fun b hb hb' => ?_⟩
    rcases hfp b hb with h1 | h1
    · exact h.apartAt hi hs (Ne.symm hj) b h1 hb'
    · obtain ⟨blk, hbl⟩ := s.live H (h.at hs) b hb'
      rw [h1] at hbl; cases hbl
  have hfr : ∀ b, t'.fp b → H0 b = none := fun b hb => (hfp b hb).elim (h.fresh t (List.mem_of_getElem? hi) b) (fun h1 => h.keep.none h1)
  refine ⟨fun c blk hc => k c blk (fun ht => by rw [h.fresh t (List.mem_of_getElem? hi) c ht] at hc; cases hc) (h.keep c blk hc), fun s hs => ?_, fun s hs => ?_, ?_⟩
  · obtain ⟨j, hj⟩ := List.mem_iff_getElem?.1 hs
    by_cases hij : i = j
    · subst hij; rw [List.getElem?_set_self hin] at hj; injection hj with hj; exact hj ▸ hok
    · rw [List.getElem?_set_ne hij] at hj; exact (hold j s (Ne.symm hij) hj).1
  · obtain ⟨j, hj⟩ := List.mem_iff_getElem?.1 hs
    by_cases hij : i = j
    · subst hij; rw [List.getElem?_set_self hin] at hj; injection hj with hj; exact hj ▸ hfr
    · rw [List.getElem?_set_ne hij] at hj; exact h.fresh s (List.mem_of_getElem? hj)
  · refine List.pairwise_iff_getElem.2 fun p q hp hq hpq => ?_
    rw [List.length_set] at hp hq
    by_cases hpi : i = p
    · subst hpi
      rw [List.getElem_set_self, List.getElem_set_ne (by omega)]
      exact (hold q _ (by omega) (List.getElem?_eq_getElem hq)).2
    · by_cases hqi : i = q
      · subst hqi
        rw [List.getElem_set_self, List.getElem_set_ne (by omega)]
        exact (hold p _ (by omega) (List.getElem?_eq_getElem hp)).2.symm
      · rw [List.getElem_set_ne hpi, List.getElem_set_ne hqi]
        exact List.pairwise_iff_getElem.1 h.apart p q hp hq hpq
def pick (I : List Nat) (L : List Ent) : List Ent := I.filterMap fun i => L[i]?
def hasN : List Nat → Nat → Bool
  | [], _ => false
  | j :: I, i => Nat.beq i j || hasN I i
def dropN (I : List Nat) : Nat → List Ent → List Ent
  | _, [] => []
  | n, t :: L => cond (hasN I n) (dropN I (n + 1) L) (t :: dropN I (n + 1) L)
def dropE (I : List Nat) (L : List Ent) : List Ent := dropN I 0 L
theorem hasN_iff {I : List Nat} {i : Nat} : hasN I i = true ↔ i ∈ I := by
  induction I with
  | nil => simp [hasN]
  | cons j I ih => simp [hasN, ih]
theorem dropN_sub (I : List Nat) : ∀ (L : List Ent) (n : Nat), (dropN I n L).Sublist L
  | [], n => by simp [dropN]
  | t :: L, n => by
    unfold dropN
    cases hasN I n
    · exact (dropN_sub I L (n + 1)).cons_cons t
    · exact (dropN_sub I L (n + 1)).cons t
theorem mem_dropN {I : List Nat} {s : Ent} : ∀ {L : List Ent} {n : Nat}, s ∈ dropN I n L → ∃ i, L[i]? = some s ∧ n + i ∉ I
  | [], n, h => by simp [dropN] at h
  | t :: L, n, h => by
    unfold dropN at h
    cases hn : hasN I n with
    | true =>
      rw [hn] at h
      obtain ⟨i, h1, h2⟩ := mem_dropN (L := L) (n := n + 1) h
      exact ⟨i + 1, by simpa using h1, by rw [show n + (i + 1) = n + 1 + i by omega]; exact h2⟩
    | false =>
      rw [hn] at h
      rcases List.mem_cons.1 h with h | h
      · subst h; exact ⟨0, rfl, fun hm => by rw [hasN_iff.2 (by simpa using hm)] at hn; cases hn⟩
      · obtain ⟨i, h1, h2⟩ := mem_dropN (L := L) (n := n + 1) h
        exact ⟨i + 1, by simpa using h1, by rw [show n + (i + 1) = n + 1 + i by omega]; exact h2⟩
theorem mem_pick {I : List Nat} (h : t ∈ pick I L) : ∃ i ∈ I, L[i]? = some t := List.mem_filterMap.1 h
theorem SepL.pickN (h : SepL H0 L H) (I : List Nat) (hI : I.Nodup) : SepL H0 (pick I L) H := by
  refine ⟨h.keep, fun t ht => ?_, fun t ht => ?_, ?_⟩
  · obtain ⟨i, _, hi⟩ := mem_pick ht; exact h.at hi
  · obtain ⟨i, _, hi⟩ := mem_pick ht; exact h.fresh t (List.mem_of_getElem? hi)
  · exact List.Pairwise.filterMap (R := fun i j => i ≠ j) _ (fun i j hij s hs t ht => h.apartAt hs ht hij) hI
def nodupB : List Nat → Bool
  | [] => true
  | i :: I => !I.contains i && nodupB I
theorem nodup_of : ∀ {I : List Nat}, nodupB I = true → I.Nodup
  | [], _ => .nil
  | i :: I, h => by
    simp only [nodupB, Bool.and_eq_true, Bool.not_eq_true'] at h
    refine List.nodup_cons.2 ⟨fun hm => ?_, nodup_of h.2⟩
    have := List.contains_iff_mem.2 hm
    rw [h.1] at this; cases this
theorem SepL.pick (h : SepL H0 L H) (I : List Nat) (hI : nodupB I = true) : SepL H0 (Ab.pick I L) H := h.pickN I (nodup_of hI)
/-- Some entries are looked at alone, all else is kept: what is done to them is done to the whole. -/
theorem SepL.split (h : SepL H0 L H) (I : List Nat) (hI : nodupB I = true) : ∃ Hx, Keep H0 Hx ∧ Keep Hx H ∧ SepL Hx (Ab.pick I L) H ∧ ∀ M H', SepL Hx M H' → SepL H0 (dropE I L ++ M) H' := by
  classical
  have hp := h.pick I hI
  have hsub : (dropE I L).Sublist L := dropN_sub I L 0
  have hd : SepL H0 (dropE I L) H := ⟨h.keep, fun t ht => h.ok t (hsub.subset ht), fun t ht => h.fresh t (hsub.subset ht), h.apart.sublist hsub⟩
  have hcross : ∀ s ∈ dropE I L, ∀ t ∈ Ab.pick I L, Apart s.fp t.fp := by
    intro s hs t ht
    obtain ⟨i, hi2, hi1⟩ := mem_dropN hs
    obtain ⟨j, hj1, hj2⟩ := mem_pick ht
    exact h.apartAt hi2 hj2 fun e => hi1 (by rw [Nat.zero_add, e]; exact hj1)
  let Hx : AH := fun b => if ∃ t ∈ Ab.pick I L, t.fp b then none else H b
  have hx1 : ∀ b, (∃ t ∈ Ab.pick I L, t.fp b) → Hx b = none := fun b hb => if_pos hb
  have hx2 : ∀ b, ¬ (∃ t ∈ Ab.pick I L, t.fp b) → Hx b = H b := fun b hb => if_neg hb
  have hx3 : Keep Hx H := fun b blk hb => by
    by_cases hc : ∃ t ∈ Ab.pick I L, t.fp b
    · rw [hx1 b hc] at hb; cases hb
    · rw [hx2 b hc] at hb; exact hb
  have hx4 : Keep H0 Hx := fun b blk hb => by
    rw [hx2 b fun ⟨t, ht, hb'⟩ => by rw [hp.fresh t ht b hb'] at hb; cases hb]
    exact h.keep b blk hb
  refine ⟨Hx, hx4, hx3, ⟨hx3, hp.ok, fun t ht b hb => hx1 b ⟨t, ht, hb⟩, hp.apart⟩, fun M H' m => ?_⟩
  have hlive : ∀ s ∈ dropE I L, ∀ b blk, s.fp b → H b = some blk → Hx b = some blk := fun s hs b blk hb hbl => by
    rw [hx2 b fun ⟨t, ht, hb'⟩ => hcross s hs t ht b hb hb']; exact hbl
  refine ⟨hx4.trans m.keep, fun s hs => ?_, fun s hs b hb => ?_, ?_⟩
  · rcases List.mem_append.1 hs with hs | hs
    · exact s.loc H H' (hd.ok s hs) fun b blk hb hbl => m.keep b blk (hlive s hs b blk hb hbl)
    · exact m.ok s hs
  · rcases List.mem_append.1 hs with hs | hs
    · exact hd.fresh s hs b hb
    · exact hx4.none (m.fresh s hs b hb)
  · refine List.pairwise_append.2 ⟨hd.apart, m.apart, fun s hs t ht b hb hb' => ?_⟩
    obtain ⟨blk, hbl⟩ := s.live H (hd.ok s hs) b hb
    have := hlive s hs b blk hb hbl
    rw [m.fresh t ht b hb'] at this
    cases this
theorem SepL.nil (h : SepL H0 L H) {α : Type} (enc : α → List Value) (e sz : Nat) : SepL H0 (L ++ [sl enc e sz none 0 []]) H :=
  h.push ⟨Keep.refl H, fun t ht => by rw [List.mem_singleton.1 ht]; exact Ows_nil, fun t ht b hb => by rw [List.mem_singleton.1 ht] at hb; simp [sl, blockS] at hb, List.pairwise_singleton _ _⟩
theorem SepL.one (k : Keep H0 H) (ht : t.ok H) (hf : ∀ b, t.fp b → H0 b = none) : SepL H0 [t] H :=
  ⟨k, fun s hs => by rw [List.mem_singleton.1 hs]; exact ht, fun s hs => by rw [List.mem_singleton.1 hs]; exact hf, List.pairwise_singleton _ _⟩
/-- A thing joins others of its kind. -/
theorem SepL.join {β : Type} {f : β → Ent} {qs : List β} {q : β} (h : SepL H0 L H) (i j : Nat) (hi : L[i]? = some (manyE f qs)) (hj : L[j]? = some (f q)) (hij : (i == j) = false) : SepL H0 (dropE [i, j] L ++ [manyE f (qs ++ [q])]) H := by
  have hij' : i ≠ j := by simpa using hij
  obtain ⟨Hx, _, _, h1, h2⟩ := h.split [i, j] (by simp [nodupB, hij'])
  have e : Ab.pick [i, j] L = [manyE f qs, f q] := by simp [Ab.pick, hi, hj]
  rw [e] at h1
  have o1 := h1.ok (manyE f qs) (by simp)
  have o2 := h1.ok (f q) (by simp)
  have f1 := h1.fresh (manyE f qs) (by simp)
  have f2 := h1.fresh (f q) (by simp)
  have ap : Apart (manyE f qs).fp (f q).fp := by
    have := h1.apart; rw [List.pairwise_pair] at this; exact this
  refine h2 _ _ (.one h1.keep ⟨fun p hp => ?_, ?_⟩ fun b ⟨p, hp, hb⟩ => ?_)
  · rcases List.mem_append.1 hp with hp | hp
    · exact o1.1 p hp
    · rw [List.mem_singleton.1 hp]; exact o2
  · refine List.pairwise_append.2 ⟨o1.2, List.pairwise_singleton _ _, fun p hp s hs b hb hb' => ?_⟩
    rw [List.mem_singleton.1 hs] at hb'
    exact ap b ⟨p, hp, hb⟩ hb'
  · rcases List.mem_append.1 hp with hp | hp
    · exact f1 b ⟨p, hp, hb⟩
    · rw [List.mem_singleton.1 hp] at hb; exact f2 b hb
theorem SepL.zero {β : Type} (h : SepL H0 L H) (f : β → Ent) : SepL H0 (L ++ [manyE f []]) H :=
  h.push (.one (Keep.refl H) ⟨by simp, .nil⟩ fun b ⟨_, hq, _⟩ => by simp at hq)
end

/-! ### Rules in the order of the text -/
section
variable {P : Program} {N : Nat} {ops : Array Oper} {Q : Exit → Env → AH → Prop} {o : Oper} {rest : List Oper} {env : Env} {H H0 : AH} {L : List Ent} {d : Option Tmp}
theorem ent_new {b : Nat} {H' : AH} {t : Ent} (hS : SepL H0 L H) (hn : H b = none) (k : Keep H H') (ht : t.ok H') (hf : ∀ x, t.fp x → x = b) : SepL H0 (L ++ [t]) H' :=
  hS.push (.one k ht fun x hx => hf x hx ▸ hn)
theorem sl_new {α : Type} {enc : α → List Value} {e sz n b : Nat} {xs : List α} {H' : AH} (hS : SepL H0 L H) (hn : H b = none) (k : Keep H H') (ht : Ows H' enc e sz (some ⟨b, 0, none⟩) n xs) : SepL H0 (L ++ [sl enc e sz (some ⟨b, 0, none⟩) n xs]) H' :=
  ent_new hS hn k ht fun x hx => by simp only [sl, blockS, Option.map_some, Option.some.injEq] at hx; exact hx.symm
theorem S_box {l : List Value} {ty n : Nat} (hS : SepL H0 L H) (hw : Region.wanted o (yieldedE ops env) = true) (hd : o.dst = d) (hc : catOf o.op = .new) (h : dnew P o.op env = some (.cells l ty true n, ptr)) (hn : l.length = n)
    (hk : ∀ b H', SepL H0 (L ++ [box b l ty]) H' → EL P N ops Q rest (put env d (ptr b)) H') : EL P N ops Q (o :: rest) env H := by
  subst hn
  exact E_new hw hd hc h fun b H' h1 h2 h3 => hk b H' (ent_new hS h1 h3 h2 fun x hx => hx)
theorem S_lit {α : Type} {enc : α → List Value} {l : List Value} {e sz n : Nat} {xs : List α} (hS : SepL H0 L H) (hw : Region.wanted o (yieldedE ops env) = true) (hd : o.dst = d) (hc : catOf o.op = .new) (h : dnew P o.op env = some (.cells l e true (n * sz), fun b => .slice (some ⟨b, 0, none⟩) n n))
    (hl : xs.flatMap enc = l) (hn : xs.length = n) (hsz : l.length = n * sz) (hm : Nat.ble n maxLen = true) (hk : ∀ a H', SepL H0 (L ++ [sl enc e sz a n xs]) H' → EL P N ops Q rest (put env d (.slice a n n)) H') : EL P N ops Q (o :: rest) env H :=
  E_new hw hd hc h fun _ _ h1 h2 h3 => hk _ _ (sl_new hS h1 h3 (Ows_lit h2 hl hn hsz (Nat.le_of_ble_eq_true hm)))
theorem S_make {α : Type} {enc : α → List Value} {e sz n : Nat} {z : α} {zs : List Value} (hS : SepL H0 L H) (hw : Region.wanted o (yieldedE ops env) = true) (hd : o.dst = d) (hc : catOf o.op = .new) (h : dnew P o.op env = some (.cells (List.replicate n zs).flatten e true (n * sz), fun b => .slice (some ⟨b, 0, none⟩) n n))
    (hz : enc z = zs) (hl : zs.length = sz) (hm : n ≤ maxLen) (hk : ∀ a xs H', xs = List.replicate n z → xs.length = n → SepL H0 (L ++ [sl enc e sz a n xs]) H' → EL P N ops Q rest (put env d (.slice a n n)) H') : EL P N ops Q (o :: rest) env H :=
  E_new hw hd hc h fun _ _ h1 h2 h3 => hk _ _ _ rfl (by simp) (sl_new hS h1 h3 (Ows_make h2 hz hl hm))
theorem S_map (hS : SepL H0 L H) (hw : Region.wanted o (yieldedE ops env) = true) (hd : o.dst = d) (hc : catOf o.op = .new) (h : dnew P o.op env = some (.map [] 0, fun b => .map (some b)))
    (hk : ∀ b H', SepL H0 (L ++ [mapE b [] 0]) H' → EL P N ops Q rest (put env d (.map (some b))) H') : EL P N ops Q (o :: rest) env H :=
  E_new hw hd hc h fun b H' h1 h2 h3 => hk b H' (ent_new hS h1 h3 h2 fun x hx => hx)
theorem put_box {b ty n : Nat} {l l' : List Value} {H' : AH} (hS : SepL H0 L H) (i : Nat) (hi : L[i]? = some (box b l ty)) (h : H' b = some (.cells l' ty true n)) (hn : l'.length = n) (k : KeepX (some b) H H') : SepL H0 (L.set i (box b l' ty)) H' :=
  hS.put i hi (fun c blk hc hb => k c blk (fun e => hc (by injection e)) hb) (by subst hn; exact h) fun x hx => .inl hx
theorem S_store {t ty g off n i : Nat} {x y : Operand} {l l' xs : List Value} {yv : Value} (hS : SepL H0 L H) (hi : L[i]? = some (box g l ty)) (hw : Region.wanted o (yieldedE ops env) = true) (hdst : o.dst = none) (ho : o.op = .store t x y)
    (hx : env.ev x = .pointer (some ⟨g, off, none⟩)) (hy : env.ev y = yv) (hz : tsz P t = some n) (hfit : Nat.ble (off + n) l.length = true) (hxs : vcells yv = xs)
    (hv : (noTuple yv && decide (xs.length = n) && xs.all oneC) = true) (hl : setRange l off xs = l') (hn : l'.length = l.length)
    (hk : ∀ H', SepL H0 (L.set i (box g l' ty)) H' → EL P N ops Q rest env H') : EL P N ops Q (o :: rest) env H :=
  E_store hw hdst ho hx hy hz (hS.box i hi) (Nat.le_of_ble_eq_true hfit) hxs hv hl fun H' h1 h2 => hk H' (put_box hS i hi h1 hn h2)
theorem put_sl {α : Type} {enc : α → List Value} {e sz c c' : Nat} {a a' : Option Addr} {xs xs' : List α} {H' : AH} (hS : SepL H0 L H) (i : Nat) (hi : L[i]? = some (sl enc e sz a c xs)) (h : Ows H' enc e sz a' c' xs') (k : KeepX (blockS a) H H') (hf : ∀ b, blockS a' = some b → some b = blockS a ∨ H b = none) : SepL H0 (L.set i (sl enc e sz a' c' xs')) H' :=
  hS.put i hi (fun c blk hc hb => k c blk (fun e => hc e.symm) hb) h fun x hx => (hf x hx).imp (fun h => h.symm) id
theorem S_storeS {α : Type} {enc : α → List Value} {t e sz c n off i k : Nat} {a : Option Addr} {x y : Operand} {xs : List α} {z z' : α} {yv : Value} {vs : List Value} (hS : SepL H0 L H) (hi : L[k]? = some (sl enc e sz a c xs)) (hw : Region.wanted o (yieldedE ops env) = true) (hdst : o.dst = none) (ho : o.op = .store t x y) (hsz : ∀ x, (enc x).length = sz)
    (hx : env.ev x = sp a (i * sz + off)) (hy : env.ev y = yv) (hz : tsz P t = some n) (hel : xs[i]? = some z) (hfit : Nat.ble (off + n) sz = true) (hxs : vcells yv = vs)
    (hv : (noTuple yv && decide (vs.length = n) && vs.all oneC) = true) (hl : setRange (enc z) off vs = enc z')
    (hk : ∀ H', SepL H0 (L.set k (sl enc e sz a c (xs.set i z'))) H' → EL P N ops Q rest env H') : EL P N ops Q (o :: rest) env H :=
  E_storeS hw hdst ho hsz hx hy hz (hS.ows k hi) hel (Nat.le_of_ble_eq_true hfit) hxs hv hl fun H' h1 h2 => hk H' (put_sl hS k hi h1 h2 fun b hb => .inl hb.symm)
theorem S_append {α : Type} {enc : α → List Value} {t e sz bytes c c2 n n2 k : Nat} {a a2 : Option Addr} {s x : Operand} {xs ys : List α} (hS : SepL H0 L H) (hi : L[k]? = some (sl enc e sz a c xs)) (hw : Region.wanted o (yieldedE ops env) = true) (hd : o.dst = d) (hN : dstOk N [o] = true)
    (ho : o.op = .call { callee := .builtin .append, args := #[s, x], argTypes := #[t, t] }) (ht : tslice P t = some e) (hz : tsz P e = some sz) (hzz : (tzc P e).map (·.length) = some sz) (hb : tbytes P e = some bytes) (hpos : Nat.ble 1 sz = true) (hsz : ∀ x, (enc x).length = sz) (hone : ∀ x, (enc x).all oneC = true)
    (hs : env.ev s = .slice a n c) (hx : env.ev x = .slice a2 n2 c2) (hn : xs.length = n) (hn2 : ys.length = n2) (hsl : Sls H enc a2 ys) (hbytes : (n + n2) * bytes ≤ 140737488355328) (h63 : n + n2 ≤ 9223372036854775807)
    (hk : ∀ a' c' xs' H', xs' = xs ++ ys → xs'.length = n + n2 → SepL H0 (L.set k (sl enc e sz a' c' xs')) H' → EL P N ops Q rest (put env d (.slice a' xs'.length c')) H') : EL P N ops Q (o :: rest) env H := by
  subst hn hn2
  exact E_appendS hw hd hN ho ht hz hzz hb (Nat.le_of_ble_eq_true hpos) hsz hone hs hx (hS.ows k hi) hsl hbytes h63 fun a' c' H' h1 h2 h3 => hk a' c' _ H' rfl (by simp) (put_sl hS k hi h1 h2 h3)
end
/-! ### The same in regions that draw -/
section
variable {P : Program} {N : Nat} {ops : Array Oper} {Q : Env → AH → Prop} {o : Oper} {rest : List Oper} {env : Env} {H H0 : AH} {L : List Ent} {d : Option Tmp}
theorem D_box {l : List Value} {ty n : Nat} (hS : SepL H0 L H) (hw : Region.wanted o (yieldedE ops env) = true) (hd : o.dst = d) (hc : catOf o.op = .new) (h : dnew P o.op env = some (.cells l ty true n, ptr)) (hn : l.length = n)
    (hk : ∀ b H', SepL H0 (L ++ [box b l ty]) H' → LW P N ops (Keep H0) Q rest (put env d (ptr b)) H') : LW P N ops (Keep H0) Q (o :: rest) env H := by
  subst hn
  exact W_new hw hd hc h fun b H' h1 h2 h3 => hk b H' (ent_new hS h1 h3 h2 fun x hx => hx)
theorem D_lit {α : Type} {enc : α → List Value} {l : List Value} {e sz n : Nat} {xs : List α} (hS : SepL H0 L H) (hw : Region.wanted o (yieldedE ops env) = true) (hd : o.dst = d) (hc : catOf o.op = .new) (h : dnew P o.op env = some (.cells l e true (n * sz), fun b => .slice (some ⟨b, 0, none⟩) n n))
    (hl : xs.flatMap enc = l) (hn : xs.length = n) (hsz : l.length = n * sz) (hm : Nat.ble n maxLen = true) (hk : ∀ a H', SepL H0 (L ++ [sl enc e sz a n xs]) H' → LW P N ops (Keep H0) Q rest (put env d (.slice a n n)) H') : LW P N ops (Keep H0) Q (o :: rest) env H :=
  W_new hw hd hc h fun _ _ h1 h2 h3 => hk _ _ (sl_new hS h1 h3 (Ows_lit h2 hl hn hsz (Nat.le_of_ble_eq_true hm)))
theorem D_make {α : Type} {enc : α → List Value} {e sz n : Nat} {z : α} {zs : List Value} (hS : SepL H0 L H) (hw : Region.wanted o (yieldedE ops env) = true) (hd : o.dst = d) (hc : catOf o.op = .new) (h : dnew P o.op env = some (.cells (List.replicate n zs).flatten e true (n * sz), fun b => .slice (some ⟨b, 0, none⟩) n n))
    (hz : enc z = zs) (hl : zs.length = sz) (hm : n ≤ maxLen) (hk : ∀ a xs H', xs = List.replicate n z → xs.length = n → SepL H0 (L ++ [sl enc e sz a n xs]) H' → LW P N ops (Keep H0) Q rest (put env d (.slice a n n)) H') : LW P N ops (Keep H0) Q (o :: rest) env H :=
  W_new hw hd hc h fun _ _ h1 h2 h3 => hk _ _ _ rfl (by simp) (sl_new hS h1 h3 (Ows_make h2 hz hl hm))
theorem D_map (hS : SepL H0 L H) (hw : Region.wanted o (yieldedE ops env) = true) (hd : o.dst = d) (hc : catOf o.op = .new) (h : dnew P o.op env = some (.map [] 0, fun b => .map (some b)))
    (hk : ∀ b H', SepL H0 (L ++ [mapE b [] 0]) H' → LW P N ops (Keep H0) Q rest (put env d (.map (some b))) H') : LW P N ops (Keep H0) Q (o :: rest) env H :=
  W_new hw hd hc h fun b H' h1 h2 h3 => hk b H' (ent_new hS h1 h3 h2 fun x hx => hx)
theorem D_append {α : Type} {enc : α → List Value} {t e sz bytes c c2 n n2 k : Nat} {a a2 : Option Addr} {s x : Operand} {xs ys : List α} (hS : SepL H0 L H) (hi : L[k]? = some (sl enc e sz a c xs)) (hw : Region.wanted o (yieldedE ops env) = true) (hd : o.dst = d) (hN : dstOk N [o] = true)
    (ho : o.op = .call { callee := .builtin .append, args := #[s, x], argTypes := #[t, t] }) (ht : tslice P t = some e) (hz : tsz P e = some sz) (hzz : (tzc P e).map (·.length) = some sz) (hb : tbytes P e = some bytes) (hpos : Nat.ble 1 sz = true) (hsz : ∀ x, (enc x).length = sz) (hone : ∀ x, (enc x).all oneC = true)
    (hs : env.ev s = .slice a n c) (hx : env.ev x = .slice a2 n2 c2) (hn : xs.length = n) (hn2 : ys.length = n2) (hsl : Sls H enc a2 ys) (hbytes : (n + n2) * bytes ≤ 140737488355328) (h63 : n + n2 ≤ 9223372036854775807)
    (hk : ∀ a' c' xs' H', xs' = xs ++ ys → xs'.length = n + n2 → SepL H0 (L.set k (sl enc e sz a' c' xs')) H' → LW P N ops (Keep H0) Q rest (put env d (.slice a' xs'.length c')) H') : LW P N ops (Keep H0) Q (o :: rest) env H := by
  subst hn hn2
  refine W_appendS hw hd hN ho ht hz hzz hb (Nat.le_of_ble_eq_true hpos) hsz hone hs hx (hS.ows k hi) hsl hbytes h63 fun a' c' H' h1 h2 h3 => ?_
  have hS' := put_sl hS k hi h1 h2 h3
  exact ⟨hS'.keep, hk a' c' _ H' rfl (by simp) hS'⟩
theorem D_store {Inv : AH → Prop} {t ty g off n i : Nat} {x y : Operand} {l l' xs : List Value} {yv : Value} (hS : SepL H0 L H) (hi : L[i]? = some (box g l ty)) (hw : Region.wanted o (yieldedE ops env) = true) (hdst : o.dst = none) (ho : o.op = .store t x y) (hrest : rest = [])
    (hx : env.ev x = .pointer (some ⟨g, off, none⟩)) (hy : env.ev y = yv) (hz : tsz P t = some n) (hfit : Nat.ble (off + n) l.length = true) (hxs : vcells yv = xs)
    (hv : (noTuple yv && decide (xs.length = n) && xs.all oneC) = true) (hl : setRange l off xs = l') (hn : l'.length = l.length)
    (hk : ∀ H', SepL H0 (L.set i (box g l' ty)) H' → Q env H') : LW P N ops Inv Q (o :: rest) env H :=
  W_store hw hdst ho hrest hx hy hz (hS.box i hi) (Nat.le_of_ble_eq_true hfit) hxs hv hl fun H' h1 h2 => hk H' (put_box hS i hi h1 hn h2)
theorem D_storeM {t ty g off n i : Nat} {x y : Operand} {l l' xs : List Value} {yv : Value} (hS : SepL H0 L H) (hi : L[i]? = some (box g l ty)) (hw : Region.wanted o (yieldedE ops env) = true) (hdst : o.dst = none) (ho : o.op = .store t x y)
    (hx : env.ev x = .pointer (some ⟨g, off, none⟩)) (hy : env.ev y = yv) (hz : tsz P t = some n) (hfit : Nat.ble (off + n) l.length = true) (hxs : vcells yv = xs)
    (hv : (noTuple yv && decide (xs.length = n) && xs.all oneC) = true) (hl : setRange l off xs = l') (hn : l'.length = l.length)
    (hk : ∀ H', SepL H0 (L.set i (box g l' ty)) H' → LW P N ops (Keep H0) Q rest env H') : LW P N ops (Keep H0) Q (o :: rest) env H := by
  subst hy hxs hl
  have h1 := put_box hS i hi (H' := upd H g (some (.cells (setRange l off (vcells (env.ev y))) ty true l.length))) (upd_same _ _ _) hn (KeepX.upd _ _ _)
  exact W_step hw (by rw [ho]; rfl) (AOp_store ho hdst hx hz (hS.box i hi) (Nat.le_of_ble_eq_true hfit) hv ⟨.inr h1.keep, hk _ h1⟩)
theorem D_storeS {Inv : AH → Prop} {α : Type} {enc : α → List Value} {t e sz c n off i k : Nat} {a : Option Addr} {x y : Operand} {xs : List α} {z z' : α} {yv : Value} {vs : List Value} (hS : SepL H0 L H) (hi : L[k]? = some (sl enc e sz a c xs)) (hw : Region.wanted o (yieldedE ops env) = true) (hdst : o.dst = none) (ho : o.op = .store t x y) (hrest : rest = []) (hsz : ∀ x, (enc x).length = sz)
    (hx : env.ev x = sp a (i * sz + off)) (hy : env.ev y = yv) (hz : tsz P t = some n) (hel : xs[i]? = some z) (hfit : Nat.ble (off + n) sz = true) (hxs : vcells yv = vs)
    (hv : (noTuple yv && decide (vs.length = n) && vs.all oneC) = true) (hl : setRange (enc z) off vs = enc z')
    (hk : ∀ H', SepL H0 (L.set k (sl enc e sz a c (xs.set i z'))) H' → Q env H') : LW P N ops Inv Q (o :: rest) env H := by
  subst hrest hy hxs
  have hvn : (vcells (env.ev y)).length = n := by simp only [Bool.and_eq_true, decide_eq_true_eq] at hv; exact hv.1.2
  have hown := hS.ows k hi
  have hfit := Nat.le_of_ble_eq_true hfit
  rcases hown.cases with ⟨_, h, _⟩ | ⟨b, h1, h2, h3, h4⟩
  · subst h; simp at hel
  · subst h1
    have hlen := flat_len hsz xs
    have hi' := get_lt hel
    have hle : (i + 1) * sz ≤ xs.length * sz := Nat.mul_le_mul_right _ hi'
    rw [Nat.succ_mul] at hle
    have hx' : env.ev x = .pointer (some ⟨b, i * sz + off, none⟩) := by rw [hx]; simp only [sp, addr_add, Nat.zero_add]
    refine W_store hw hdst ho rfl hx' rfl hz h2 (by omega) rfl hv rfl fun H' h5 h6 => ?_
    rw [set_flat hsz xs i z z' off _ hel hl (by omega)] at h5
    exact hk H' (put_sl hS k hi (Ows.mk' (by rw [flat_len hsz]) h5 (by rw [List.length_set]; exact h3) h4) h6 fun b' hb' => .inl hb'.symm)
end
end Go.Ab

namespace Go.Ab
section
variable {P : Program} {N : Nat}
theorem SepL.base {H0 H : AH} (k : Keep H0 H) : SepL H0 [] H := ⟨k, by simp, by simp, .nil⟩
/-- A region that draws: all that Hx has is kept in it. -/
theorem AWp_D {l : List Oper} {id : Nat} {Qx : Exit → Env → AH → Prop} {env : Env} {H Hx : AH} (hk : Keep Hx H) (hm : P.follows .mixedOrders = true) (hB : (drawB l && dstOk N l && noSel l) = true)
    (h : LW P N l.toArray (Keep Hx) (Qx .normal) l env H) : AWp P N (.region id l.toArray true) Qx env H := by
  simp only [Bool.and_eq_true] at hB
  intro a w r
  refine wp_region_any hm ?_
  have hA : ∀ (H1 : AH) b blk, Keep Hx H1 → H1 b = none → Keep Hx (upd H1 b (some blk)) := fun H1 b blk hk hb => hk.trans (Keep.upd hb blk)
  have hzip : (l.zipIdx.map fun x => (x.2, x.1)).map (·.2) = l := by
    rw [List.map_map]
    have : ((fun x : Nat × Oper => x.2) ∘ fun x : Oper × Nat => (x.2, x.1)) = Prod.fst := rfl
    rw [this, List.zipIdx_map_fst]
  have r0 : Rel N env H a { w with drawn := w.drawn + 1 } := ⟨r.env, r.size, r.defers, r.hr⟩
  have := any_order (P := P) (Qx := Qx) (H0 := H) (w0 := w) hA hB.1.1 hB.1.2 hB.2 l.length (l.zipIdx.map fun x => (x.2, x.1)) (Array.replicate l.length false) env H a { w with drawn := w.drawn + 1 } (by simp) ?_ r0 (.inr hk) (L.drewN H w 1) (by rw [hzip]; exact h)
  · simpa using this
  · refine ⟨by simp, fun j oj _ hl => ?_, ?_, fun x hx => ?_⟩
    · exfalso
      rcases Nat.lt_or_ge j l.length with h | h
      · simp [Array.getD, h] at hl
      · simp [Array.getD, Nat.not_lt.2 h] at hl
    · rw [List.map_map]
      have : ((fun x : Nat × Oper => x.1) ∘ fun x : Oper × Nat => (x.2, x.1)) = Prod.snd := rfl
      rw [this, List.zipIdx_map_snd, ← List.range_eq_range']
      symm
      refine List.filter_eq_self.2 fun j hj => ?_
      have := List.mem_range.1 hj
      simp [Array.getD, this]
    · obtain ⟨⟨o, i⟩, hm, rfl⟩ := List.mem_map.1 hx
      exact List.mem_zipIdx_iff_getElem?.1 hm
end
theorem AWp_D0 {P : Program} {N : Nat} {l : List Oper} {id : Nat} {Qx : Exit → Env → AH → Prop} {env : Env} {H : AH} (hm : P.follows .mixedOrders = true) (hB : (drawB l && dstOk N l && noSel l) = true)
    (h : SepL H [] H → LW P N l.toArray (Keep H) (Qx .normal) l env H) : AWp P N (.region id l.toArray true) Qx env H := AWp_D (Keep.refl H) hm hB (h (SepL.refl H))
theorem SepL.pushes {H0 H : AH} {L : List Ent} (h : SepL H0 L H) : ∀ M H', SepL H M H' → SepL H0 (L ++ M) H' := fun _ _ m => h.push m

/-! ### Pointers to what is only read -/
def PV (H : AH) (p k : Nat) (l : List Value) : Prop := ∃ pre post e o room, H p = some (.cells (pre ++ l ++ post) e o room) ∧ pre.length = k
section
variable {H H' : AH} {p k : Nat} {l : List Value}
theorem PV.keep (h : PV H p k l) (hk : Keep H H') : PV H' p k l := by
  obtain ⟨pre, post, e, o, room, h1, h2⟩ := h; exact ⟨pre, post, e, o, room, hk _ _ h1, h2⟩
theorem PV.of {e room n : Nat} {o : Bool} {l' : List Value} (h : H p = some (.cells l' e o room)) (hn : Nat.ble (k + n) l'.length = true) (hl : (l'.drop k).take n = l) : PV H p k l := by
  have hn := Nat.le_of_ble_eq_true hn
  refine ⟨l'.take k, l'.drop (k + n), e, o, room, ?_, by rw [List.length_take]; omega⟩
  rw [h, ← hl, List.append_assoc, ← List.drop_drop, List.take_append_drop, List.take_append_drop]
theorem PV.sub {j n : Nat} {l' : List Value} (h : PV H p k l) (hn : Nat.ble (j + n) l.length = true) (hl : (l.drop j).take n = l') : PV H p (k + j) l' := by
  obtain ⟨pre, post, e, o, room, h1, h2⟩ := h
  have hn := Nat.le_of_ble_eq_true hn
  refine ⟨pre ++ l.take j, l.drop (j + n) ++ post, e, o, room, ?_, by rw [List.length_append, List.length_take]; omega⟩
  rw [h1, ← hl]
  congr 2
  have : l = l.take j ++ ((l.drop j).take n ++ l.drop (j + n)) := by rw [← List.drop_drop, List.take_append_drop, List.take_append_drop]
  conv => lhs; rw [this]
  simp only [List.append_assoc]
variable {P : Program} {t off n : Nat} {x : Value} {xs : List Value}
theorem ld_pv (h : PV H p k l) (ha : tagg P t = some false) (hl : l[off]? = some x) (ho : oneC x = true) : PLoad P H t (.pointer (some ⟨p, k + off, none⟩)) x := by
  obtain ⟨pre, post, e, o, room, h1, h2⟩ := h
  refine ld_box h1 ha ?_ ho
  rw [List.append_assoc, List.getElem?_append_right (by omega), h2, Nat.add_sub_cancel_left, List.getElem?_append_left (get_lt hl), hl]
theorem ld_pvA (h : PV H p k l) (ha : tagg P t = some true) (hz : tsz P t = some n) (hn : Nat.ble (off + n) l.length = true) (hl : (l.drop off).take n = xs) : PLoad P H t (.pointer (some ⟨p, k + off, none⟩)) (.agg xs.toArray) := by
  obtain ⟨pre, post, e, o, room, h1, h2⟩ := h
  have hn := Nat.le_of_ble_eq_true hn
  refine ld_boxA h1 ha hz (by simp only [List.length_append]; omega) ?_
  rw [List.append_assoc, List.drop_append, List.drop_of_length_le (by omega), List.nil_append, h2, Nat.add_sub_cancel_left, List.drop_append_of_le_length (by omega), List.take_append_of_le_length (by rw [List.length_drop]; omega), hl]
end
/-- An element as a pointer's aim. -/
theorem sls_pv {α : Type} {H : AH} {enc : α → List Value} {a : Option Addr} {xs : List α} {i sz : Nat} {x : α} (h : Sls H enc a xs) (hx : xs[i]? = some x) (hsz : ∀ x, (enc x).length = sz) : ∃ p k, sp a (i * sz) = .pointer (some ⟨p, k, none⟩) ∧ PV H p k (enc x) := by
  rcases h with h | ⟨b, off, pre, post, e, o, room, rfl, h1, h2⟩
  · subst h; simp at hx
  · obtain ⟨ys, zs, hxs, hi⟩ := split_at xs i x hx
    refine ⟨b, off + i * sz, by simp [sp, addr_add], pre ++ ys.flatMap enc, zs.flatMap enc ++ post, e, o, room, ?_, ?_⟩
    · rw [h1, hxs]; simp [List.flatMap_append, List.flatMap_cons]
    · rw [List.length_append, flat_len hsz, hi, h2]

theorem dv_nilSp {α : Type} {P : Program} {env : Env} {H : AH} {enc : α → List Value} {a : Option Addr} {xs : List α} {i k : Nat} {x : α} {o : Operand} (ho : env.ev o = sp a k) (h : Sls H enc a xs) (hx : xs[i]? = some x) : dval P (.nilCheck o) env H = some (sp a k) := by
  rcases h with h | ⟨b, off, pre, post, e, ow, room, rfl, _, _⟩
  · subst h; simp at hx
  · simp only [dval, ho, sp]
/-! ### What is only read, and how long it is -/
def VS {α : Type} (H : AH) (enc : α → List Value) (a : Option Addr) (n : Nat) (xs : List α) : Prop := Sls H enc a xs ∧ xs.length = n ∧ n ≤ 1048576
def VR (H : AH) (a : Option Addr) (n : Nat) (rs : List Row) : Prop := Rows H a rs ∧ rs.length = n ∧ n ≤ 1048576
theorem VS.keep {α : Type} {H H' : AH} {enc : α → List Value} {a : Option Addr} {n : Nat} {xs : List α} (h : VS H enc a n xs) (k : Keep H H') : VS H' enc a n xs := ⟨h.1.keep k, h.2⟩
theorem VR.keep {H H' : AH} {a : Option Addr} {n : Nat} {rs : List Row} (h : VR H a n rs) (k : Keep H H') : VR H' a n rs := ⟨h.1.keep k, h.2⟩
abbrev rxs (rs : List Row) : List (List Int) := rs.map Row.xs
structure Msh where
  ps : List V3
  ts : List (List Int)
structure LM where
  pa : Option Addr
  pc : Nat
  pn : Nat
  ps : List V3
  ta : Option Addr
  tc : Nat
  tn : Nat
  ts : List Row
abbrev LM.v (m : LM) : List Value := [.slice m.pa m.pn m.pc, .slice m.ta m.tn m.tc]
def LM.ok (H : AH) (m : LM) : Prop := VS H encV m.pa m.pn m.ps ∧ VR H m.ta m.tn m.ts
abbrev LM.d (m : LM) : Msh := ⟨m.ps, rxs m.ts⟩
theorem LM.ok.keep {H H' : AH} {m : LM} (h : m.ok H) (k : Keep H H') : m.ok H' := ⟨h.1.keep k, h.2.keep k⟩
structure Spr where
  A : Int
  B : Int
  Long : Nat
  Stiff : Nat
def encS (s : Spr) : List Value := [.int .i64 s.A, .int .i64 s.B, .float .f32 s.Long, .float .f32 s.Stiff]
structure Bod where
  m : Msh
  ss : List Spr
  film : Nat
  bend : Nat
  ws : List Nat
  fall : V3
structure LB where
  m : LM
  sa : Option Addr
  sc : Nat
  sn : Nat
  ss : List Spr
  film : Nat
  bend : Nat
  wa : Option Addr
  wc : Nat
  wn : Nat
  ws : List Nat
  fall : V3
abbrev LB.v (b : LB) : List Value := [.slice b.m.pa b.m.pn b.m.pc, .slice b.m.ta b.m.tn b.m.tc, .slice b.sa b.sn b.sc, .float .f32 b.film, .float .f32 b.bend, .slice b.wa b.wn b.wc, .float .f32 b.fall.x, .float .f32 b.fall.y, .float .f32 b.fall.z]
def LB.ok (H : AH) (b : LB) : Prop := b.m.ok H ∧ VS H encS b.sa b.sn b.ss ∧ VS H encF b.wa b.wn b.ws
abbrev LB.d (b : LB) : Bod := ⟨b.m.d, b.ss, b.film, b.bend, b.ws, b.fall⟩
theorem LB.ok.keep {H H' : AH} {b : LB} (h : b.ok H) (k : Keep H H') : b.ok H' := ⟨h.1.keep k, h.2.1.keep k, h.2.2.keep k⟩
/-- A thing of rows of one's own, read. -/
theorem rows_of {H : AH} {e : Nat} {a : Option Addr} {qs : List Row} (h1 : Sls H encR a qs) (h2 : (rowsE e qs).ok H) (hl : ∀ q ∈ qs, q.xs.length ≤ 1048576) : Rows H a qs :=
  ⟨h1, fun q hq => ⟨(h2.1 q hq : Ows H encI e 1 q.a q.c q.xs).sls, hl q hq⟩⟩
theorem rowsE_sls {H : AH} {e i : Nat} {qs : List Row} {x : Row} (h : (rowsE e qs).ok H) (hx : qs[i]? = some x) : Sls H encI x.a x.xs := (h.1 x (List.mem_of_getElem? hx) : Ows H encI e 1 x.a x.c x.xs).sls
theorem pre_in {x y : Int} {l : List (List Int)} (h : x = y) : x = y := h
end Go.Ab

namespace Go.Ab
abbrev fl (x : Nat) : Value := .float .f32 x
abbrev fd (x : Nat) : Value := .float .f64 x
abbrev iv (n : Int) : Value := .int .i64 n
abbrev pt (b k : Nat) : Value := .pointer (some ⟨b, k, none⟩)
abbrev sv (a : Option Addr) (n c : Nat) : Value := .slice a n c
abbrev yes : Value := .bool true
abbrev no : Value := .bool false
abbrev va (v : V3) : Value := .agg #[.float .f32 v.x, .float .f32 v.y, .float .f32 v.z]
abbrev mva (m : LM) : Value := .agg #[.slice m.pa m.pn m.pc, .slice m.ta m.tn m.tc]
abbrev bva (b : LB) : Value := .agg #[.slice b.m.pa b.m.pn b.m.pc, .slice b.m.ta b.m.tn b.m.tc, .slice b.sa b.sn b.sc, .float .f32 b.film, .float .f32 b.bend, .slice b.wa b.wn b.wc, .float .f32 b.fall.x, .float .f32 b.fall.y, .float .f32 b.fall.z]
section
variable {P : Program} {N : Nat} {ops : Array Oper} {o : Oper} {rest : List Oper} {env : Env} {H : AH} {d : Option Tmp}
theorem ed {Q : Exit → Env → AH → Prop} (v : Value) (hw : (Region.wanted o (yieldedE ops env) && (match catOf o.op with | .det => true | _ => false)) = true) (hd : o.dst = d) (h : dval P o.op env H = some v) (hk : EL P N ops Q rest (put env d v) H) : EL P N ops Q (o :: rest) env H := by
  simp only [Bool.and_eq_true] at hw
  refine E_det hw.1 hd ?_ h hk
  have := hw.2; split at this
  · assumption
  · cases this
theorem wd {Inv : AH → Prop} {Q : Env → AH → Prop} (v : Value) (hw : (Region.wanted o (yieldedE ops env) && (match catOf o.op with | .det => true | _ => false)) = true) (hd : o.dst = d) (h : ∀ Hc, Inv Hc → dval P o.op env Hc = some v) (hk : LW P N ops Inv Q rest (put env d v) H) : LW P N ops Inv Q (o :: rest) env H := by
  simp only [Bool.and_eq_true] at hw
  refine W_det hw.1 hd ?_ h hk
  have := hw.2; split at this
  · assumption
  · cases this
end
def vscale (x : V3) (k : Nat) : V3 := ⟨fop .mul .f32 x.x k, fop .mul .f32 x.y k, fop .mul .f32 x.z k⟩
def vcross (x y : V3) : V3 := ⟨fop .sub .f32 (fop .mul .f32 x.y y.z) (fop .mul .f32 x.z y.y), fop .sub .f32 (fop .mul .f32 x.z y.x) (fop .mul .f32 x.x y.z), fop .sub .f32 (fop .mul .f32 x.x y.y) (fop .mul .f32 x.y y.x)⟩
section
variable {P : Program} {N : Nat} {ops : Array Oper} {o : Oper} {rest : List Oper} {env : Env} {H : AH} {d : Option Tmp}
theorem dv_fn {f : Fn} {first captured : Array Operand} {v : Value} (h : (allPlain (first.toList.map env.ev) && allPlain (captured.toList.map env.ev)) = true) (hv : .func f (first.toList.map env.ev).toArray (captured.toList.map env.ev).toArray = v) : dval P (.makeFunc f first captured) env H = some v := by
  have e : ∀ a : Array Operand, a.map env.ev = (a.toList.map env.ev).toArray := fun a => by
    apply Array.ext'; simp
  subst hv; simp only [dval]; rw [if_pos h, e, e]
theorem un_neg {a : Int} (h : -9223372036854775808 ≤ -a ∧ -a ≤ 9223372036854775807) : dun .neg (.int .i64 a) = some (.int .i64 (-a)) := by simp [dun, wrp64 h]
theorem E_callF {Q : Exit → Env → AH → Prop} {f : Operand} {args : Array Operand} {ts : Array TypeId} {k : FuncId} {vs cs : List Value} {R : Value → AH → Prop} (hw : Region.wanted o (yieldedE ops env) = true) (hd : o.dst = d) (ho : o.op = .call { callee := .value f, args := args, argTypes := ts }) (hf : env.ev f = .func (.func k) #[] cs.toArray)
    (hN : dstOk N [o] = true) (hb : hasBody P k = true) (hc : allPlain cs = true) (hargs : args.toList.map env.ev = vs) (h : ACalls P k (vs ++ cs) H R) (hk : ∀ r H', R r H' → EL P N ops Q rest (put env d r) H') : EL P N ops Q (o :: rest) env H := by
  subst hd hargs
  refine E_step hw (by rw [ho]; rfl) (AOp_call (k := k) (first := #[]) (captured := cs.toArray) (dstOk_head hN).1 ho hf hc rfl hb ?_)
  have : ([] : List Value) ++ args.toList.map env.ev ++ cs = args.toList.map env.ev ++ cs := by simp
  rw [show (#[] : Array Value).toList = [] from rfl, show cs.toArray.toList = cs from rfl, this]
  exact h.mono hk
theorem W_callF {Inv : AH → Prop} {Q : Env → AH → Prop} {f : Operand} {args : Array Operand} {ts : Array TypeId} {k : FuncId} {vs cs : List Value} {R : Value → AH → Prop} (hw : Region.wanted o (yieldedE ops env) = true) (hd : o.dst = d) (ho : o.op = .call { callee := .value f, args := args, argTypes := ts }) (hf : env.ev f = .func (.func k) #[] cs.toArray)
    (hN : dstOk N [o] = true) (hb : hasBody P k = true) (hc : allPlain cs = true) (hargs : args.toList.map env.ev = vs) (h : ACalls P k (vs ++ cs) H R) (hk : ∀ r H', R r H' → Inv H' ∧ LW P N ops Inv Q rest (put env d r) H') : LW P N ops Inv Q (o :: rest) env H := by
  subst hd hargs
  refine W_step hw (by rw [ho]; rfl) (AOp_call (k := k) (first := #[]) (captured := cs.toArray) (dstOk_head hN).1 ho hf hc rfl hb ?_)
  have : ([] : List Value) ++ args.toList.map env.ev ++ cs = args.toList.map env.ev ++ cs := by simp
  rw [show (#[] : Array Value).toList = [] from rfl, show cs.toArray.toList = cs from rfl, this]
  exact h.mono fun r H' hR => ⟨.inr (hk r H' hR).1, (hk r H' hR).2⟩
end
end Go.Ab

namespace Go.Ab
def markS (k : Int) (n : Nat) : List Spr := (List.range n).map fun (i : Nat) => ⟨k + 4 * (i : Int), k + 4 * (i : Int) + 1, fk (k + 4 * (i : Int) + 1 + 1), fk (k + 4 * (i : Int) + 1 + 1 + 1)⟩
def markF (k : Int) (n : Nat) : List Nat := (List.range n).map fun (i : Nat) => fk (k + (i : Int))
def markR (k : Int) : List Row → List Row
  | [] => []
  | q :: qs => ⟨q.a, q.c, markI k q.xs.length⟩ :: markR (k + q.xs.length) qs
def rsum : List Row → Nat
  | [] => 0
  | q :: qs => q.xs.length + rsum qs
@[simp] theorem markV_len (k : Int) (n : Nat) : (markV k n).length = n := by simp [markV]
@[simp] theorem markT_len (k : Int) (n : Nat) : (markT k n).length = n := by simp [markT]
@[simp] theorem markI_len (k : Int) (n : Nat) : (markI k n).length = n := by simp [markI]
@[simp] theorem markS_len (k : Int) (n : Nat) : (markS k n).length = n := by simp [markS]
@[simp] theorem markF_len (k : Int) (n : Nat) : (markF k n).length = n := by simp [markF]
@[simp] theorem markR_len : ∀ (k : Int) (qs : List Row), (markR k qs).length = qs.length
  | _, [] => rfl
  | k, q :: qs => by simp [markR, markR_len]
theorem markR_lens : ∀ {rs : List Row} (k : Int), (∀ q ∈ rs, q.xs.length ≤ 1048576) → ∀ q ∈ markR k rs, q.xs.length ≤ 1048576
  | [], _, _, q, hq => by simp [markR] at hq
  | r :: rs, k, h, q, hq => by
    simp only [markR, List.mem_cons] at hq
    rcases hq with rfl | hq
    · simp only [markI_len]; exact h r (by simp)
    · exact markR_lens _ (fun p hp => h p (by simp [hp])) q hq
theorem rsum_app (p q : List Row) : rsum (p ++ q) = rsum p + rsum q := by
  induction p with
  | nil => simp [rsum]
  | cons x p ih => simp only [List.cons_append, rsum, ih]; omega
theorem markR_app (k : Int) (p q : List Row) : markR k (p ++ q) = markR k p ++ markR (k + rsum p) q := by
  induction p generalizing k with
  | nil => simp [rsum, markR]
  | cons x p ih =>
    simp only [List.cons_append, rsum, markR, ih]
    rw [show k + (x.xs.length : Int) + (rsum p : Int) = k + ((x.xs.length + rsum p : Nat) : Int) by omega]
theorem rsum_mark (k : Int) (qs : List Row) : rsum (markR k qs) = rsum qs := by
  induction qs generalizing k with
  | nil => rfl
  | cons x p ih => simp only [markR, rsum, ih, markI_len]
theorem rsum_take {rs : List Row} {i : Nat} {x : Row} (h : rs[i]? = some x) : rsum (rs.take (i + 1)) = rsum (rs.take i) + x.xs.length := by
  rw [take_step h, rsum_app]; simp [rsum]
theorem rsum_le {rs : List Row} (h : ∀ q ∈ rs, q.xs.length ≤ 1048576) : rsum rs ≤ rs.length * 1048576 := by
  induction rs with
  | nil => simp [rsum]
  | cons x p ih =>
    have h1 := h x (by simp)
    have h2 := ih fun q hq => h q (by simp [hq])
    simp only [rsum, List.length_cons]; omega
theorem rsum_takele {rs : List Row} (i : Nat) : rsum (rs.take i) ≤ rsum rs := by
  have := rsum_app (rs.take i) (rs.drop i)
  rw [List.take_append_drop] at this; omega
theorem markR_get (k : Int) : ∀ {rs : List Row} {i : Nat} {x : Row}, (markR k rs)[i]? = some x → ∃ x0, rs[i]? = some x0 ∧ x = ⟨x0.a, x0.c, markI (k + rsum (rs.take i)) x0.xs.length⟩
  | [], i, x, h => by simp [markR] at h
  | q :: qs, 0, x, h => by
    simp only [markR, List.getElem?_cons_zero, Option.some.injEq] at h
    exact ⟨q, rfl, by rw [← h]; simp [rsum]⟩
  | q :: qs, i + 1, x, h => by
    rw [markR, List.getElem?_cons_succ] at h
    obtain ⟨x0, h1, h2⟩ := markR_get (k + q.xs.length) h
    refine ⟨x0, by rw [List.getElem?_cons_succ]; exact h1, ?_⟩
    rw [h2, List.take_succ_cons, rsum]
    congr 2
    omega
theorem markR_enc (k : Int) : ∀ rs : List Row, (markR k rs).flatMap encR = rs.flatMap encR
  | [] => rfl
  | q :: qs => by simp [markR, List.flatMap_cons, markR_enc _ qs, encR]
theorem SepL.swapR {H0 H : AH} {L : List Ent} (h : SepL H0 L H) (i : Nat) {e c : Nat} {a : Option Addr} {rs : List Row} (k : Int) (hi : L[i]? = some (sl encR e 1 a c rs)) : SepL H0 (L.set i (sl encR e 1 a c (markR k rs))) H := by
  refine h.put i hi (fun _ _ _ hb => hb) ?_ fun b hb => .inl hb
  show OwnL H (.slice a (markR k rs).length c) e 1 (markR k rs).length ((markR k rs).flatMap encR)
  rw [markR_enc, markR_len]
  exact h.ows i hi
theorem drop_step {α : Type} {xs : List α} {i : Nat} {x : α} (h : xs[i]? = some x) : xs.drop i = x :: xs.drop (i + 1) := by
  obtain ⟨h1, h2⟩ := List.getElem?_eq_some_iff.1 h
  rw [List.drop_eq_getElem_cons h1, h2]
/-- The first of many things looked at alone. -/
theorem SepL.uncons {β : Type} {f : β → Ent} {q : β} {qs rs : List β} {H0 H : AH} {L : List Ent} (h : SepL H0 L H) (i : Nat) (hi : L[i]? = some (manyE f rs)) (hr : rs = q :: qs) : SepL H0 (dropE [i] L ++ [f q, manyE f qs]) H := by
  subst hr
  obtain ⟨Hx, _, _, h1, h2⟩ := h.split [i] rfl
  have e : Ab.pick [i] L = [manyE f (q :: qs)] := by simp [Ab.pick, hi]
  rw [e] at h1
  have o := h1.ok _ (List.mem_singleton.2 rfl)
  have fr := h1.fresh _ (List.mem_singleton.2 rfl)
  have ho : (∀ p ∈ q :: qs, (f p).ok H) ∧ (q :: qs).Pairwise fun p q => Apart (f p).fp (f q).fp := o
  rw [List.pairwise_cons] at ho
  refine h2 _ _ ⟨h1.keep, fun t ht => ?_, fun t ht b hb => ?_, ?_⟩
  · simp only [List.mem_cons, List.not_mem_nil, or_false] at ht
    rcases ht with rfl | rfl
    · exact ho.1 q (by simp)
    · exact ⟨fun p hp => ho.1 p (by simp [hp]), ho.2.2⟩
  · simp only [List.mem_cons, List.not_mem_nil, or_false] at ht
    rcases ht with rfl | rfl
    · exact fr b ⟨q, by simp, hb⟩
    · obtain ⟨p, hp, hb⟩ := hb; exact fr b ⟨p, by simp [hp], hb⟩
  · rw [List.pairwise_pair]
    intro b hb ⟨p, hp, hb'⟩
    exact ho.2.1 p hp b hb hb'
end Go.Ab

namespace Go.Ab
def Msh.ok (m : Msh) : Prop := meshP m.ps.length m.ts
def sprP (n : Nat) (s : Spr) : Prop := inP s.A n ∧ inP s.B n ∧ s.A ≠ s.B ∧ fge .f32 s.Long 0 = true
def Bod.ok (b : Bod) : Prop := b.m.ok ∧ b.ss.length ≤ 200 ∧ b.ws.length = b.m.ps.length ∧ ∀ s ∈ b.ss, sprP b.m.ps.length s
/-- Held places: places, rising. -/
def heldJ (n : Nat) (held : List Int) (k : Nat) : Prop := ∀ j p, j < k → held[j]? = some p → inP p n ∧ ∀ i q, j = i + 1 → held[i]? = some q → q < p
def heldP (n : Nat) (held : List Int) : Prop := heldJ n held held.length
theorem heldJ_zero (n : Nat) (held : List Int) : heldJ n held 0 := fun j p h => by omega
theorem heldJ_step {n : Nat} {held : List Int} {k : Nat} {p : Int} (h : heldJ n held k) (hx : held[k]? = some p) (hp : inP p n) (hq : ∀ i q, k = i + 1 → held[i]? = some q → q < p) : heldJ n held (k + 1) := fun j p' hj hjp => by
  by_cases h1 : j < k
  · exact h j p' h1 hjp
  · have h2 : j = k := by omega
    subst h2
    rw [hx] at hjp; injection hjp with hjp; subst hjp
    exact ⟨hp, hq⟩
theorem heldP_in {n : Nat} {held : List Int} (h : heldP n held) {j : Nat} {p : Int} (hx : held[j]? = some p) : inP p n := (h j p (get_lt hx) hx).1
theorem heldP_no {n : Nat} {held : List Int} {j : Nat} {p : Int} (hx : held[j]? = some p) (h : ¬ (inP p n ∧ ∀ i q, j = i + 1 → held[i]? = some q → q < p)) : ¬ heldP n held := fun hh => h (hh j p (get_lt hx) hx)
theorem rows_mem {rs : List Row} {i : Nat} {x : Row} (h : rs[i]? = some x) : x.xs ∈ rxs rs := List.mem_map.2 ⟨x, List.mem_of_getElem? h, rfl⟩
theorem meshP_row {n : Nat} {rs : List Row} {i : Nat} {x : Row} (h : meshP n (rxs rs)) (hx : rs[i]? = some x) : triP x.xs n := h.2.2 _ (rows_mem hx)
theorem triP_get {t : List Int} {n : Int} {i : Nat} {p : Int} (h : triP t n) (hx : t[i]? = some p) : inP p n := triP_all h p (List.mem_of_getElem? hx)
theorem triP_ne {t : List Int} {n a b c : Int} (h : triP t n) (ha : t[0]? = some a) (hb : t[1]? = some b) (hc : t[2]? = some c) : a ≠ b ∧ b ≠ c ∧ a ≠ c := by
  unfold triP at h
  rw [getD_of ha, getD_of hb, getD_of hc] at h
  exact ⟨h.2.1, h.2.2.1, h.2.2.2.1⟩
end Go.Ab

namespace Go.Ab
section
variable {P : Program}
/-- One of many things looked at alone, and laid back. -/
theorem SepL.out {β : Type} {f : β → Ent} {q : β} {qs : List β} {H0 H : AH} {L : List Ent} (h : SepL H0 L H) (i j : Nat) (hi : L[i]? = some (manyE f qs)) (hx : qs[j]? = some q) : SepL H0 (dropE [i] L ++ [f q, manyE f (qs.eraseIdx j)]) H := by
  obtain ⟨Hx, _, _, h1, h2⟩ := h.split [i] rfl
  have e : Ab.pick [i] L = [manyE f qs] := by simp [Ab.pick, hi]
  rw [e] at h1
  have o : (∀ p ∈ qs, (f p).ok H) ∧ qs.Pairwise fun p q => Apart (f p).fp (f q).fp := h1.ok _ (List.mem_singleton.2 rfl)
  have fr := h1.fresh _ (List.mem_singleton.2 rfl)
  have hmem : q ∈ qs := List.mem_of_getElem? hx
  have hsub : (qs.eraseIdx j).Sublist qs := List.eraseIdx_sublist qs j
  refine h2 _ _ ⟨h1.keep, fun t ht => ?_, fun t ht b hb => ?_, ?_⟩
  · simp only [List.mem_cons, List.not_mem_nil, or_false] at ht
    rcases ht with rfl | rfl
    · exact o.1 q hmem
    · exact ⟨fun p hp => o.1 p (hsub.subset hp), o.2.sublist hsub⟩
  · simp only [List.mem_cons, List.not_mem_nil, or_false] at ht
    rcases ht with rfl | rfl
    · exact fr b ⟨q, hmem, hb⟩
    · obtain ⟨p, hp, hb⟩ := hb; exact fr b ⟨p, hsub.subset hp, hb⟩
  · rw [List.pairwise_pair]
    intro b hb ⟨p, hp, hb'⟩
    obtain ⟨k, hk1, hk2⟩ := List.mem_eraseIdx_iff_getElem?.1 hp
    have hp' := List.pairwise_iff_getElem.1 o.2
    obtain ⟨h3, h4⟩ := List.getElem?_eq_some_iff.1 hx
    obtain ⟨h5, h6⟩ := List.getElem?_eq_some_iff.1 hk2
    rcases Nat.lt_or_gt_of_ne hk1 with h7 | h7
    · have := hp' k j h5 h3 h7; rw [h4, h6] at this; exact this b hb' hb
    · have := hp' j k h3 h5 h7; rw [h4, h6] at this; exact this b hb hb'
theorem SepL.into {β : Type} {f : β → Ent} {q : β} {qs : List β} {H0 H : AH} {L : List Ent} (h : SepL H0 L H) (i k j : Nat) (hi : L[i]? = some (manyE f (qs.eraseIdx j))) (hk : L[k]? = some (f q)) (hik : (i == k) = false) (hj : j < qs.length) : SepL H0 (dropE [i, k] L ++ [manyE f (qs.set j q)]) H := by
  have hij' : i ≠ k := by simpa using hik
  obtain ⟨Hx, _, _, h1, h2⟩ := h.split [i, k] (by simp [nodupB, hij'])
  have e : Ab.pick [i, k] L = [manyE f (qs.eraseIdx j), f q] := by simp [Ab.pick, hi, hk]
  rw [e] at h1
  have o1 : (∀ p ∈ qs.eraseIdx j, (f p).ok H) ∧ (qs.eraseIdx j).Pairwise fun p q => Apart (f p).fp (f q).fp := h1.ok (manyE f (qs.eraseIdx j)) (by simp)
  have o2 := h1.ok (f q) (by simp)
  have f1 := h1.fresh (manyE f (qs.eraseIdx j)) (by simp)
  have f2 := h1.fresh (f q) (by simp)
  have ap : Apart (manyE f (qs.eraseIdx j)).fp (f q).fp := by
    have := h1.apart; rw [List.pairwise_pair] at this; exact this
  have e1 : qs.eraseIdx j = qs.take j ++ qs.drop (j + 1) := List.eraseIdx_eq_take_drop_succ qs j
  have e2 : qs.set j q = qs.take j ++ q :: qs.drop (j + 1) := List.set_eq_take_append_cons_drop.trans (if_pos hj)
  have hm : ∀ p, p ∈ qs.set j q → p ∈ qs.eraseIdx j ∨ p = q := fun p hp => by
    rw [e2] at hp; rw [e1]
    simp only [List.mem_append, List.mem_cons] at hp ⊢
    rcases hp with hp | hp | hp
    · exact .inl (.inl hp)
    · exact .inr hp
    · exact .inl (.inr hp)
  refine h2 _ _ (.one h1.keep ⟨fun p hp => ?_, ?_⟩ fun b ⟨p, hp, hb⟩ => ?_)
  · rcases hm p hp with hp | rfl
    · exact o1.1 p hp
    · exact o2
  · have hpw := o1.2
    rw [e1] at hpw
    rw [e2]
    rw [List.pairwise_append] at hpw ⊢
    refine ⟨hpw.1, List.pairwise_cons.2 ⟨fun p hp b hb hb' => ap b ⟨p, by rw [e1]; simp [hp], hb'⟩ hb, hpw.2.1⟩, fun x hx y hy => ?_⟩
    rcases List.mem_cons.1 hy with rfl | hy
    · exact fun b hb hb' => ap b ⟨x, by rw [e1]; simp [hx], hb⟩ hb'
    · exact hpw.2.2 x hx y hy
  · rcases hm p hp with hp | rfl
    · exact f1 b ⟨p, hp, hb⟩
    · exact f2 b hb
/-- A nil row joins many. -/
theorem SepL.nilRow {e : Nat} {qs : List Row} {H0 H : AH} {L : List Ent} (h : SepL H0 L H) (i : Nat) (hi : L[i]? = some (rowsE e qs)) : SepL H0 (L.set i (rowsE e (qs ++ [⟨none, 0, []⟩]))) H := by
  refine h.put i hi (fun _ _ _ hb => hb) ?_ fun b ⟨q, hq, hb⟩ => ?_
  · have o : (∀ p ∈ qs, (rowE1 e p).ok H) ∧ qs.Pairwise fun p q => Apart (rowE1 e p).fp (rowE1 e q).fp := h.at hi
    refine ⟨fun p hp => ?_, List.pairwise_append.2 ⟨o.2, List.pairwise_singleton _ _, fun p hp s hs b hb hb' => ?_⟩⟩
    · rcases List.mem_append.1 hp with hp | hp
      · exact o.1 p hp
      · rw [List.mem_singleton.1 hp]; exact Ows_nil
    · rw [List.mem_singleton.1 hs] at hb'; simp [rowE1, sl, blockS] at hb'
  · rcases List.mem_append.1 hq with hq | hq
    · exact .inl ⟨q, hq, hb⟩
    · rw [List.mem_singleton.1 hq] at hb; simp [rowE1, sl, blockS] at hb

/-! ### The entries of a map -/
abbrev KV := (Int × Int) × Row
def mke (p : KV × Nat) : MapEntry := ⟨keyV p.1.1, .slice p.1.2.a p.1.2.xs.length p.1.2.c, p.2⟩
def mkes (kvs : List KV) : List MapEntry := kvs.zipIdx.map mke
theorem mkes_get {kvs : List KV} {j : Nat} {y : MapEntry} (h : (mkes kvs)[j]? = some y) : ∃ p, kvs[j]? = some p ∧ y = mke (p, j) := by
  unfold mkes at h
  rw [List.getElem?_map, List.getElem?_zipIdx] at h
  cases hk : kvs[j]? with
  | none => rw [hk] at h; simp at h
  | some p => rw [hk] at h; simp only [Option.map_some, Nat.zero_add, Option.some.injEq] at h; exact ⟨p, rfl, h.symm⟩
theorem mkes_keys (kvs : List KV) : (mkes kvs).map (·.key) = (kvs.map (·.1)).map keyV := by
  unfold mkes
  rw [List.map_map, List.map_map]
  have : ((fun x : MapEntry => x.key) ∘ mke) = (keyV ∘ fun p : KV => p.1) ∘ Prod.fst := rfl
  rw [this, ← List.map_map, List.zipIdx_map_fst]
theorem mkes_vals (kvs : List KV) : ∀ y ∈ mkes kvs, ∃ a n c, y.val = .slice a n c := fun y hy => by
  obtain ⟨p, _, rfl⟩ := List.mem_map.1 hy
  exact ⟨_, _, _, rfl⟩
theorem mkes_push (kvs : List KV) (p : KV) : mkes (kvs ++ [p]) = mkes kvs ++ [mke (p, kvs.length)] := by
  unfold mkes; rw [List.zipIdx_append, List.map_append]; simp
theorem mkes_len (kvs : List KV) : (mkes kvs).length = kvs.length := by simp [mkes]
theorem mkes_born {kvs : List KV} {j : Nat} (hj : j < kvs.length) : (mkes kvs).findIdx? (fun e => (e.born : Int) == (j : Int)) = some j := by
  rw [List.findIdx?_eq_some_iff_getElem]
  refine ⟨by rw [mkes_len]; exact hj, ?_, fun k hk => ?_⟩
  · simp [mkes, mke]
  · simp [mkes, mke]; omega
theorem mkes_set {kvs : List KV} {j : Nat} {x : Int × Int} {q q' : Row} (h : kvs[j]? = some (x, q)) : (mkes kvs).modify j (fun e => { e with val := .slice q'.a q'.xs.length q'.c }) = mkes (kvs.set j (x, q')) := by
  apply List.ext_getElem?
  intro i
  rw [List.getElem?_modify]
  unfold mkes
  rw [List.getElem?_map, List.getElem?_map, List.getElem?_zipIdx, List.getElem?_zipIdx, List.getElem?_set]
  by_cases hij : j = i
  · subst hij
    rw [h, if_pos rfl, if_pos (get_lt h)]
    simp [mke]
  · rw [if_neg hij]
    cases kvs[i]? <;> simp [hij]
end
section
variable {P : Program} {N : Nat} {ops : Array Oper} {Q : Exit → Env → AH → Prop} {o : Oper} {rest : List Oper} {env : Env} {H H0 : AH} {L : List Ent} {d : Option Tmp}
/-- What is needed of a map's type. -/
structure PairMap (P : Program) (t : Nat) : Prop where
  go : ∃ kt et e, tmap P t = some (kt, et) ∧ P.underlying kt = some (.array 2 e) ∧ P.underlying e = some (.int .i64) ∧ tsz P e = some 1 ∧ tagg P e = some false ∧ tzero P et = some (.slice none 0 0)
theorem S_lookupP {t r i : Nat} {m k : Operand} {x : Int × Int} {kvs : List KV} (hS : SepL H0 L H) (hi : L[i]? = some (mapE r (mkes kvs) kvs.length)) (hw : Region.wanted o (yieldedE ops env) = true) (hN : dstOk N [o] = true) (hd : o.dst = d)
    (ho : o.op = .lookup t m k false) (hT : PairMap P t) (hm : env.ev m = .map (some r)) (hk : env.ev k = keyV x)
    (h1 : (∀ (j : Nat) (q : Row), kvs[j]? ≠ some (x, q)) → EL P N ops Q rest (put env d (.slice none 0 0)) H) (h2 : ∀ (j : Nat) (q : Row), kvs[j]? = some (x, q) → EL P N ops Q rest (put env d (.slice q.a q.xs.length q.c)) H) : EL P N ops Q (o :: rest) env H := by
  subst hd
  obtain ⟨kt, et, e, t1, t2, t3, t4, t5, t6⟩ := hT.go
  refine E_step hw (by rw [ho]; rfl) (AOp_lookup (ks := kvs.map (·.1)) (dstOk_head hN).1 ho t1 t2 t3 t4 t5 hm hk (hS.at hi) (mkes_keys kvs) t6 rfl (mkes_vals kvs) (fun hn => h1 fun j q hj => hn ?_) fun j y hy hj _ => ?_)
  · exact List.mem_map.2 ⟨_, List.mem_of_getElem? hj, rfl⟩
  · obtain ⟨p, hp, rfl⟩ := mkes_get hy
    rw [List.getElem?_map, hp] at hj
    simp only [Option.map_some, Option.some.injEq] at hj
    subst hj
    exact h2 j p.2 hp
theorem put_map {r i : Nat} {es es' : List MapEntry} {c c' : Nat} (hS : SepL H0 L H) (hi : L[i]? = some (mapE r es c)) : SepL H0 (L.set i (mapE r es' c')) (upd H r (some (.map es' c'))) :=
  hS.put i hi (fun b blk hb hbl => by rw [upd_ne _ _ hb]; exact hbl) (upd_same _ _ _) fun b hb => .inl hb
/-- The place of a key in a map: a new one, or the one that there is. -/
theorem S_mapEntryP {t r i : Nat} {m k : Operand} {x : Int × Int} {kvs : List KV} (hS : SepL H0 L H) (hi : L[i]? = some (mapE r (mkes kvs) kvs.length)) (hw : Region.wanted o (yieldedE ops env) = true) (hN : dstOk N [o] = true) (hd : o.dst = d)
    (ho : o.op = .mapEntry t m k) (hT : PairMap P t) (hm : env.ev m = .map (some r)) (hk : env.ev k = keyV x)
    (h1 : (∀ (j : Nat) (q : Row), kvs[j]? ≠ some (x, q)) → ∀ H', SepL H0 (L.set i (mapE r (mkes (kvs ++ [(x, ⟨none, 0, []⟩)])) (kvs ++ [(x, (⟨none, 0, []⟩ : Row))]).length)) H' → EL P N ops Q rest (put env d (.tuple #[.slice none 0 0, .int .i64 ((kvs.length : Nat) : Int)])) H')
    (h2 : ∀ (j : Nat) (q : Row), kvs[j]? = some (x, q) → ∀ H', SepL H0 (L.set i (mapE r (mkes kvs) kvs.length)) H' → EL P N ops Q rest (put env d (.tuple #[.slice q.a q.xs.length q.c, .int .i64 ((j : Nat) : Int)])) H') : EL P N ops Q (o :: rest) env H := by
  subst hd
  obtain ⟨kt, et, e, t1, t2, t3, t4, t5, t6⟩ := hT.go
  refine E_step hw (by rw [ho]; rfl) (AOp_mapEntry (ks := kvs.map (·.1)) (dstOk_head hN).1 ho t1 t2 t3 t4 t5 hm hk (hS.at hi) (mkes_keys kvs) t6 rfl (mkes_vals kvs) (fun hn => ?_) fun j y hy hj _ => ?_)
  · refine h1 (fun j q hj => hn (List.mem_map.2 ⟨_, List.mem_of_getElem? hj, rfl⟩)) _ ?_
    have := put_map (es' := mkes kvs ++ [⟨keyV x, .slice none 0 0, kvs.length⟩]) (c' := kvs.length + 1) hS hi
    rw [mkes_push, List.length_append]
    exact this
  · obtain ⟨p, hp, rfl⟩ := mkes_get hy
    rw [List.getElem?_map, hp] at hj
    simp only [Option.map_some, Option.some.injEq] at hj
    subst hj
    exact h2 j p.2 hp _ (put_map hS hi)
theorem AOp_entryStore {K : Env → AH → Prop} {t r clock j : Nat} {m s v : Operand} {es : List MapEntry} {a : Option Addr} {n c : Nat} (hdst : o.dst = none) (ho : o.op = .entryStore t m s v) (hm : env.ev m = .map (some r)) (hs : env.ev s = .int .i64 ((j : Nat) : Int)) (hv : env.ev v = .slice a n c)
    (hH : H r = some (.map es clock)) (hf : es.findIdx? (fun e => (e.born : Int) == (j : Int)) = some j) (hk : K env (upd H r (some (.map (es.modify j fun e => { e with val := .slice a n c }) clock)))) : AOp P N o env H K := by
  intro act w rl
  have hρ : ∀ z, cv (act.eval z) = env.ev z := fun z => by rw [← ev_envOf, rl.env]
  have hm' : act.eval m = .map (some r) := cv_plain ((hρ m).trans hm) rfl
  have hs' : act.eval s = .int .i64 (j : Int) := cv_plain ((hρ s).trans hs) rfl
  have hv' : act.eval v = .slice a n c := cv_plain ((hρ v).trans hv) rfl
  obtain ⟨ces, hces, hcv⟩ := rl.hr.map hH
  have hget : (getObj r).run P w = .ok (.map ces clock) w := run_getObj_map w r ces clock hces
  have hset : ∀ (ob : Obj), (setObj r ob).run P w = .ok () { w with heap := w.heap.setIfInBounds r ob } := fun ob => by simp [setObj, Sem.run, hces]
  have hfind : ces.findIdx? (fun e => (e.born : Int) == (j : Int)) = some j := by
    rw [← hcv, List.findIdx?_map] at hf
    rw [← List.findIdx?_toArray] at hf; exact hf
  have hmod : (ces.modify j fun e => { e with val := .slice a n c }).toList.map cvE = es.modify j fun e => { e with val := .slice a n c } := by
    rw [Array.toList_modify, ← hcv]
    apply List.ext_getElem?
    intro i
    rw [List.getElem?_map, List.getElem?_modify, List.getElem?_modify, List.getElem?_map]
    by_cases hij : j = i
    · subst hij; cases ces.toList[j]? <;> simp [cvE, cv2, cv1]
    · cases ces.toList[i]? <;> simp [hij]
  have hr : (execOp act.eval o).run P w = .ok .skip { w with heap := w.heap.setIfInBounds r (.map (ces.modify j fun e => { e with val := .slice a n c }) clock) } := by
    unfold execOp; rw [ho]; dsimp only; rw [hm', hs', hv']
    unfold Instr.entryStore
    have ha : Sem.run P (asIntOf (Value.int IntKind.i64 (j : Int))) w = .ok (.i64, (j : Int)) w := rfl
    simp only [Sem.run_bind, hget, Result.andThen_ok, asInt, hset, Sem.run_pure, ha, hfind]
  unfold Oper.wp
  rw [hr]
  refine ⟨env, _, hk, ?_, L_map hH⟩
  have := HR_map rl.hr (ces := ces.modify j fun e => { e with val := .slice a n c }) (clock := clock) hH
  rw [hmod] at this
  have r2 : Rel N env H (act.put o.dst undef) w := by rw [hdst]; exact ⟨rl.env, rl.size, rl.defers, rl.hr⟩
  exact ⟨r2.env, r2.size, r2.defers, this⟩
theorem S_entryStoreP {t r i j : Nat} {m s v : Operand} {x : Int × Int} {q q' : Row} {kvs : List KV} {n : Nat} (hS : SepL H0 L H) (hi : L[i]? = some (mapE r (mkes kvs) n)) (hw : Region.wanted o (yieldedE ops env) = true) (hdst : o.dst = none)
    (ho : o.op = .entryStore t m s v) (hm : env.ev m = .map (some r)) (hs : env.ev s = .int .i64 ((j : Nat) : Int)) (hv : env.ev v = .slice q'.a q'.xs.length q'.c) (hj : kvs[j]? = some (x, q))
    (hk : ∀ H', SepL H0 (L.set i (mapE r (mkes (kvs.set j (x, q'))) n)) H' → EL P N ops Q rest env H') : EL P N ops Q (o :: rest) env H := by
  refine E_step hw (by rw [ho]; rfl) (AOp_entryStore hdst ho hm hs hv (hS.at hi) (mkes_born (get_lt hj)) (hk _ ?_))
  rw [mkes_set hj]
  exact put_map hS hi
end
end Go.Ab

namespace Go.Ab
abbrev EP := (Int × Int) × Int
/-- The triangles that were told for an edge. -/
def tv (E : List EP) (e : Int × Int) : List Int := (E.filter fun p => decide (p.1 = e)).map (·.2)
theorem tv_app (E F : List EP) (e : Int × Int) : tv (E ++ F) e = tv E e ++ tv F e := by simp [tv]
theorem tv_one (x e : Int × Int) (v : Int) : tv [(x, v)] e = if x = e then [v] else [] := by
  unfold tv; by_cases h : x = e <;> simp [h]
theorem tv_le (E : List EP) (e : Int × Int) : (tv E e).length ≤ E.length := by
  unfold tv; rw [List.length_map]; exact List.length_filter_le _ _
theorem tv_ne {E : List EP} {e : Int × Int} : tv E e ≠ [] ↔ ∃ p ∈ E, p.1 = e := by
  unfold tv
  rw [ne_eq, List.map_eq_nil_iff, List.filter_eq_nil_iff]
  simp only [decide_eq_true_eq]
  constructor
  · intro h
    by_cases h2 : ∃ p ∈ E, p.1 = e
    · exact h2
    · exact absurd (fun p hp hpe => h2 ⟨p, hp, hpe⟩) h
  · rintro ⟨p, hp, hpe⟩ h; exact h p hp hpe
/-- A map of edges after the pairs E. -/
structure MapI (kvs : List KV) (E : List EP) : Prop where
  nodup : (kvs.map (·.1)).Nodup
  val : ∀ (j : Nat) (e : Int × Int) (q : Row), kvs[j]? = some (e, q) → q.xs = tv E e ∧ tv E e ≠ []
  has : ∀ p ∈ E, ∃ (j : Nat) (q : Row), kvs[j]? = some (p.1, q)
theorem MapI.start : MapI [] [] := ⟨.nil, fun j e q h => by simp at h, fun p h => by simp at h⟩
theorem MapI.none {kvs : List KV} {E : List EP} (h : MapI kvs E) {x : Int × Int} (hn : ∀ (j : Nat) (q : Row), kvs[j]? ≠ some (x, q)) : tv E x = [] := by
  by_cases h1 : tv E x = []
  · exact h1
  · obtain ⟨p, hp, hpe⟩ := tv_ne.1 h1
    obtain ⟨j, q, hj⟩ := h.has p hp
    rw [hpe] at hj
    exact absurd hj (hn j q)
theorem MapI.len {kvs : List KV} {E : List EP} (h : MapI kvs E) : kvs.length ≤ E.length := by
  have h1 : (kvs.map (·.1)).length ≤ (E.map (·.1)).length := by
    refine List.Nodup.length_le_of_subset h.nodup fun e he => ?_
    obtain ⟨p, hp, rfl⟩ := List.mem_map.1 he
    obtain ⟨j, hj⟩ := List.mem_iff_getElem?.1 hp
    have h2 := (h.val j p.1 p.2 hj).2
    obtain ⟨p', hp', hpe⟩ := tv_ne.1 h2
    exact List.mem_map.2 ⟨p', hp', hpe⟩
  simpa using h1
theorem MapI.new {kvs : List KV} {E : List EP} (h : MapI kvs E) {x : Int × Int} {v : Int} {q : Row} (hn : ∀ (j : Nat) (q : Row), kvs[j]? ≠ some (x, q)) (hq : q.xs = [v]) : MapI (kvs ++ [(x, q)]) (E ++ [(x, v)]) := by
  have ht := h.none hn
  refine ⟨?_, fun j e p hj => ?_, fun p hp => ?_⟩
  · rw [List.map_append, List.map_singleton]
    refine List.nodup_append.2 ⟨h.nodup, by simp, fun a ha b hb => ?_⟩
    rw [List.mem_singleton.1 hb]
    obtain ⟨p, hp, rfl⟩ := List.mem_map.1 ha
    obtain ⟨j, hj⟩ := List.mem_iff_getElem?.1 hp
    exact fun e => hn j p.2 (hj.trans (congrArg some (Prod.ext e rfl)))
  · by_cases hjl : j < kvs.length
    · rw [List.getElem?_append_left hjl] at hj
      have h1 := h.val j e p hj
      have hne : x ≠ e := fun he => hn j p (by rw [hj, he])
      rw [tv_app, tv_one, if_neg hne, List.append_nil]
      exact h1
    · rw [List.getElem?_append_right (by omega)] at hj
      have h2 : j - kvs.length = 0 := by have := get_lt hj; simp at this; omega
      rw [h2] at hj
      simp only [List.getElem?_cons_zero, Option.some.injEq, Prod.mk.injEq] at hj
      obtain ⟨rfl, rfl⟩ := hj
      rw [tv_app, ht, tv_one, if_pos rfl, hq]
      exact ⟨rfl, by simp⟩
  · rcases List.mem_append.1 hp with hp | hp
    · obtain ⟨j, q', hj⟩ := h.has p hp
      exact ⟨j, q', by rw [List.getElem?_append_left (get_lt hj)]; exact hj⟩
    · rw [List.mem_singleton.1 hp]
      exact ⟨kvs.length, q, by simp⟩
theorem nodup_at {α : Type} {l : List α} (h : l.Nodup) {i j : Nat} {x : α} (hi : l[i]? = some x) (hj : l[j]? = some x) : i = j := by
  have h1 := get_lt hi
  exact (List.getElem?_inj h1 h).1 (hi.trans hj.symm)
theorem MapI.more {kvs : List KV} {E : List EP} (h : MapI kvs E) {x : Int × Int} {v : Int} {j : Nat} {q q' : Row} (hj : kvs[j]? = some (x, q)) (hq : q'.xs = q.xs ++ [v]) : MapI (kvs.set j (x, q')) (E ++ [(x, v)]) := by
  have hjl := get_lt hj
  have hkeys : (kvs.set j (x, q')).map (·.1) = kvs.map (·.1) := by
    apply List.ext_getElem?
    intro i
    rw [List.getElem?_map, List.getElem?_map, List.getElem?_set]
    by_cases hij : j = i
    · subst hij; rw [if_pos rfl, if_pos hjl, hj]; rfl
    · rw [if_neg hij]
  refine ⟨by rw [hkeys]; exact h.nodup, fun i e p hi => ?_, fun p hp => ?_⟩
  · rw [List.getElem?_set] at hi
    by_cases hij : j = i
    · subst hij
      rw [if_pos rfl, if_pos hjl] at hi
      simp only [Option.some.injEq, Prod.mk.injEq] at hi
      obtain ⟨rfl, rfl⟩ := hi
      rw [tv_app, tv_one, if_pos rfl, hq, (h.val j x q hj).1]
      exact ⟨rfl, by simp⟩
    · rw [if_neg hij] at hi
      have h1 := h.val i e p hi
      have hne : x ≠ e := fun he => by
        subst he
        exact hij (nodup_at h.nodup (by rw [List.getElem?_map, hj]; rfl) (by rw [List.getElem?_map, hi]; rfl))
      rw [tv_app, tv_one, if_neg hne, List.append_nil]
      exact h1
  · have : ∃ (i : Nat) (p' : Row), kvs[i]? = some (p.1, p') := by
      rcases List.mem_append.1 hp with hp | hp
      · exact h.has p hp
      · rw [List.mem_singleton.1 hp]; exact ⟨j, q, hj⟩
    obtain ⟨i, p', hi⟩ := this
    by_cases hij : j = i
    · subst hij
      rw [hj] at hi
      simp only [Option.some.injEq, Prod.mk.injEq] at hi
      exact ⟨j, q', by rw [List.getElem?_set, if_pos rfl, if_pos hjl, hi.1]⟩
    · exact ⟨i, p', by rw [List.getElem?_set, if_neg hij]; exact hi⟩
/-- The pairs of the triangles of a mesh. -/
def pairsAt (t : List Int) (i : Nat) : List EP := (rowE t).map fun e => (e, (i : Int))
def pairs (ts : List (List Int)) : List EP := ts.zipIdx.flatMap fun p => pairsAt p.1 p.2
theorem pairs_step {ts : List (List Int)} {i : Nat} {t : List Int} (h : ts[i]? = some t) : pairs (ts.take (i + 1)) = pairs (ts.take i) ++ pairsAt t i := by
  have hi := get_lt h
  unfold pairs
  rw [take_step h, List.zipIdx_append, List.flatMap_append, List.length_take, Nat.min_eq_left (by omega)]
  simp
/-- The triangles that have an edge. -/
def trisOf (ts : List (List Int)) (e : Int × Int) : List Int := tv (pairs ts) e
theorem pairs_fst (ts : List (List Int)) : (pairs ts).map (·.1) = allE ts := by
  unfold pairs allE
  rw [List.map_flatMap]
  have h1 : (fun p : List Int × Nat => (pairsAt p.1 p.2).map (·.1)) = fun p => rowE p.1 := by
    funext p
    show ((rowE p.1).map fun e => (e, (p.2 : Int))).map (·.1) = rowE p.1
    rw [List.map_map]; exact List.map_id _
  rw [h1]
  have h2 : (ts.zipIdx.map Prod.fst).flatMap rowE = ts.zipIdx.flatMap fun p => rowE p.1 := List.flatMap_map _ _ _
  rw [← h2, List.zipIdx_map_fst]
theorem allE_len (ts : List (List Int)) : (allE ts).length = 3 * ts.length := by
  induction ts with
  | nil => rfl
  | cons t ts ih => unfold allE at *; rw [List.flatMap_cons, List.length_append, ih, rowE_len, List.length_cons]; omega
theorem pairs_len (ts : List (List Int)) : (pairs ts).length = 3 * ts.length := by
  rw [← allE_len, ← pairs_fst, List.length_map]
end Go.Ab

namespace Go.Ab
def eltQ (x y : Int × Int) : Prop := x.1 < y.1 ∨ (x.1 = y.1 ∧ x.2 < y.2)
instance (x y : Int × Int) : Decidable (eltQ x y) := inferInstanceAs (Decidable (_ ∨ _))
def leE (x y : Int × Int) : Bool := !decide (eltQ y x)
theorem leE_iff (x y : Int × Int) : leE x y = true ↔ eltQ x y ∨ x = y := by
  show (!decide (eltQ y x)) = true ↔ _
  rw [Bool.not_eq_true', decide_eq_false_iff_not]
  unfold eltQ
  constructor
  · intro h
    by_cases h1 : x = y
    · exact .inr h1
    · left
      have h2 : ¬ (x.1 = y.1 ∧ x.2 = y.2) := fun h => h1 (Prod.ext h.1 h.2)
      omega
  · rintro (h | h)
    · omega
    · subst h; omega
theorem edgesFrom_mem {S : List (Int × Int)} {a b n : Nat} {e : Int × Int} : e ∈ edgesFrom S a b n ↔ ∃ c : Nat, b ≤ c ∧ c < n ∧ e = ((a : Int), (c : Int)) ∧ e ∈ S := by
  unfold edgesFrom
  simp only [List.mem_map, List.mem_filter, List.mem_range'_1, decide_eq_true_eq]
  constructor
  · rintro ⟨c, ⟨h1, h2⟩, rfl⟩; exact ⟨c, h1.1, by omega, rfl, h2⟩
  · rintro ⟨c, h1, h2, rfl, h3⟩; exact ⟨c, ⟨⟨h1, by omega⟩, h3⟩, rfl⟩
theorem edgeList_pw (n : Nat) (ts : List (List Int)) : (edgeList n ts).Pairwise eltQ := by
  unfold edgeList
  rw [List.pairwise_flatMap]
  refine ⟨fun a _ => ?_, ?_⟩
  · unfold edgesFrom
    refine List.Pairwise.map _ (R := (· < ·)) (fun b c h => .inr ⟨rfl, by simpa using h⟩) ?_
    refine List.Pairwise.filter _ ?_
    exact List.pairwise_lt_range'
  · refine List.Pairwise.imp ?_ List.pairwise_lt_range
    intro a b hab x hx y hy
    obtain ⟨c, _, _, rfl, _⟩ := edgesFrom_mem.1 hx
    obtain ⟨d, _, _, rfl, _⟩ := edgesFrom_mem.1 hy
    exact .inl (by simpa using hab)
theorem rowE_in {t : List Int} {n : Nat} (h : triP t n) {e : Int × Int} (he : e ∈ rowE t) : 0 ≤ e.1 ∧ e.1 < e.2 ∧ e.2 < n := by
  unfold triP inP at h
  unfold rowE at he
  simp only [List.mem_cons, List.not_mem_nil, or_false] at he
  rcases he with rfl | rfl | rfl <;> dsimp only <;> omega
theorem edgeList_mem {n : Nat} {ts : List (List Int)} (hm : ∀ t ∈ ts, triP t n) {e : Int × Int} : e ∈ edgeList n ts ↔ e ∈ allE ts := by
  unfold edgeList
  rw [List.mem_flatMap]
  constructor
  · rintro ⟨a, _, h⟩; obtain ⟨_, _, _, _, h2⟩ := edgesFrom_mem.1 h; exact h2
  · intro h
    obtain ⟨t, ht, he⟩ := List.mem_flatMap.1 h
    have h1 := rowE_in (hm t ht) he
    refine ⟨e.1.toNat, List.mem_range.2 (by omega), edgesFrom_mem.2 ⟨e.2.toNat, by omega, by omega, Prod.ext ?_ ?_, h⟩⟩ <;> dsimp only <;> omega
theorem sort_edges {kvs : List KV} {n : Nat} {ts : List (List Int)} (hI : MapI kvs (pairs ts)) (hm : ∀ t ∈ ts, triP t n) : (kvs.map (·.1)).mergeSort leE = edgeList n ts := by
  have htr : ∀ a b c : Int × Int, leE a b = true → leE b c = true → leE a c = true := by
    intro a b c h1 h2
    rw [leE_iff] at *
    unfold eltQ at *
    rcases h1 with h1 | rfl
    · rcases h2 with h2 | rfl
      · left; omega
      · left; exact h1
    · exact h2
  have htot : ∀ a b : Int × Int, (leE a b || leE b a) = true := by
    intro a b
    rw [Bool.or_eq_true, leE_iff, leE_iff]
    unfold eltQ
    by_cases h : a = b
    · exact .inl (.inr h)
    · have h2 : ¬ (a.1 = b.1 ∧ a.2 = b.2) := fun h' => h (Prod.ext h'.1 h'.2)
      omega
  have hp1 := List.pairwise_mergeSort htr htot (kvs.map (·.1))
  have hperm := List.mergeSort_perm (kvs.map (·.1)) leE
  have hpw := edgeList_pw n ts
  have hnd : (edgeList n ts).Nodup := hpw.imp fun {a b} h e => by subst e; unfold eltQ at h; omega
  have hmem : ∀ e, e ∈ kvs.map (·.1) ↔ e ∈ edgeList n ts := by
    intro e
    rw [edgeList_mem hm, ← pairs_fst]
    constructor
    · intro he
      obtain ⟨p, hp, rfl⟩ := List.mem_map.1 he
      obtain ⟨j, hj⟩ := List.mem_iff_getElem?.1 hp
      obtain ⟨p', hp', hpe⟩ := tv_ne.1 (hI.val j p.1 p.2 hj).2
      exact List.mem_map.2 ⟨p', hp', hpe⟩
    · intro he
      obtain ⟨p, hp, rfl⟩ := List.mem_map.1 he
      obtain ⟨j, q, hj⟩ := hI.has p hp
      exact List.mem_map.2 ⟨_, List.mem_of_getElem? hj, rfl⟩
  have hperm2 : (kvs.map (·.1)).Perm (edgeList n ts) := (List.perm_ext_iff_of_nodup hI.nodup hnd).2 hmem
  refine List.Perm.eq_of_pairwise (le := fun a b => leE a b = true) (fun a b _ _ h1 h2 => ?_) hp1 (hpw.imp fun {a b} h => (leE_iff a b).2 (.inl h)) (hperm.trans hperm2)
  rw [leE_iff] at h1 h2
  unfold eltQ at h1 h2
  rcases h1 with h1 | h1
  · rcases h2 with h2 | h2
    · omega
    · exact h2.symm
  · exact h1
theorem bump_new (kvs : List KV) (x : Int × Int) (q0 q : Row) : (kvs ++ [(x, q0)]).set kvs.length (x, q) = kvs ++ [(x, q)] := by simp
theorem bump_rows (kvs : List KV) (x : Int × Int) (q0 q : Row) : (kvs.map (·.2) ++ [q0]).set kvs.length q = (kvs ++ [(x, q)]).map (·.2) := by simp
theorem bump_old (kvs : List KV) (j : Nat) (x : Int × Int) (q : Row) : (kvs.map (·.2)).set j q = (kvs.set j (x, q)).map (·.2) := by rw [List.map_set]
theorem bump_keys {kvs : List KV} {j : Nat} {x : Int × Int} {q : Row} (q' : Row) (h : kvs[j]? = some (x, q)) : (kvs.set j (x, q')).map (·.1) = kvs.map (·.1) := by
  rw [List.map_set]
  apply List.ext_getElem?
  intro i
  rw [List.getElem?_set]
  by_cases hij : j = i
  · subst hij
    rw [if_pos rfl, List.length_map, if_pos (get_lt h), List.getElem?_map, h]; rfl
  · rw [if_neg hij]
end Go.Ab

namespace Go.Ab
def thirdOf (t : List Int) (i j : Int) : Int := t.getD 0 0 + t.getD 1 0 + t.getD 2 0 - i - j
theorem tri3 {t : List Int} {n : Int} (h : triP t n) : ∃ a b c, t = [a, b, c] ∧ a ≠ b ∧ b ≠ c ∧ a ≠ c ∧ (0 ≤ a ∧ a < n) ∧ (0 ≤ b ∧ b < n) ∧ (0 ≤ c ∧ c < n) := by
  obtain ⟨hl, h1, h2, h3, h4, h5, h6⟩ := h
  match t, hl with
  | [a, b, c], _ =>
    unfold inP at *
    simp only [List.getD_cons_zero, List.getD_cons_succ] at *
    exact ⟨a, b, c, rfl, h1, h2, h3, by omega, by omega, by omega⟩
theorem third_eq {t : List Int} {n i j x : Int} {k : Nat} (h : triP t n) (hi : i ∈ t) (hj : j ∈ t) (hij : i ≠ j) (hx : t[k]? = some x) (h1 : x ≠ i) (h2 : x ≠ j) : x = thirdOf t i j := by
  obtain ⟨a, b, c, rfl, h3, h4, h5, _⟩ := tri3 h
  have hm := List.mem_of_getElem? hx
  unfold thirdOf
  simp only [List.mem_cons, List.not_mem_nil, or_false, List.getD_cons_zero, List.getD_cons_succ] at *
  omega
theorem third_in {t : List Int} {n i j : Int} (h : triP t n) (hi : i ∈ t) (hj : j ∈ t) (hij : i ≠ j) : 0 ≤ thirdOf t i j ∧ thirdOf t i j < n := by
  obtain ⟨a, b, c, rfl, h3, h4, h5, h6, h7, h8⟩ := tri3 h
  unfold thirdOf
  simp only [List.mem_cons, List.not_mem_nil, or_false, List.getD_cons_zero, List.getD_cons_succ] at *
  omega
theorem third_no {t : List Int} {n i j : Int} (h : triP t n) (hk : ∀ q x, q < t.length → t[q]? = some x → x = i ∨ x = j) : False := by
  obtain ⟨a, b, c, rfl, h3, h4, h5, _⟩ := tri3 h
  have h0 := hk 0 a (by simp) rfl
  have h1 := hk 1 b (by simp) rfl
  have h2 := hk 2 c (by simp) rfl
  omega
/-- The third places of the triangles of an edge. -/
def thirds (ts : List (List Int)) (e : Int × Int) : List Int := ts.filterMap fun t => if e.1 ∈ t ∧ e.2 ∈ t then some (thirdOf t e.1 e.2) else none
theorem thirds_step {ts : List (List Int)} {k : Nat} {t : List Int} {e : Int × Int} (h : ts[k]? = some t) : thirds (ts.take (k + 1)) e = thirds (ts.take k) e ++ (if e.1 ∈ t ∧ e.2 ∈ t then [thirdOf t e.1 e.2] else []) := by
  unfold thirds
  rw [take_step h, List.filterMap_append]
  congr 1
  by_cases hc : e.1 ∈ t ∧ e.2 ∈ t <;> simp [hc]
theorem thirds_le (ts : List (List Int)) (e : Int × Int) : (thirds ts e).length ≤ ts.length := List.length_filterMap_le _ _
def hingeAt (ts : List (List Int)) (e : Int × Int) : List (List Int) := if (thirds ts e).length = 2 then [[e.1, e.2] ++ thirds ts e] else []
def hingesD (n : Nat) (ts : List (List Int)) : List (List Int) := (edgeList n ts).flatMap (hingeAt ts)
def hingesTo (n : Nat) (ts : List (List Int)) (k : Nat) : List (List Int) := ((edgeList n ts).take k).flatMap (hingeAt ts)
theorem hingesTo_step {n : Nat} {ts : List (List Int)} {k : Nat} {e : Int × Int} (h : (edgeList n ts)[k]? = some e) : hingesTo n ts (k + 1) = hingesTo n ts k ++ hingeAt ts e := by
  unfold hingesTo; rw [take_step h, List.flatMap_append]; simp
theorem hingeAt_le (ts : List (List Int)) (e : Int × Int) : (hingeAt ts e).length ≤ 1 := by unfold hingeAt; split <;> simp
theorem hingesTo_le (n : Nat) (ts : List (List Int)) (k : Nat) : (hingesTo n ts k).length ≤ k := by
  induction k with
  | zero => simp [hingesTo]
  | succ k ih =>
    by_cases h : k < (edgeList n ts).length
    · rw [hingesTo_step (List.getElem?_eq_getElem h), List.length_append]
      have := hingeAt_le ts ((edgeList n ts)[k])
      omega
    · unfold hingesTo at *
      rw [List.take_of_length_le (by omega)] at *
      omega
theorem rows_get {qs : List Row} {l : List (List Int)} {i : Nat} {x : Row} (h : rxs qs = l) (hx : qs[i]? = some x) : l[i]? = some x.xs := by
  rw [← h, rxs, List.getElem?_map, hx]; rfl
theorem thirds_in {n : Nat} {ts : List (List Int)} (hm : ∀ t ∈ ts, triP t n) {e : Int × Int} (he : e.1 ≠ e.2) : ∀ x ∈ thirds ts e, 0 ≤ x ∧ x < n := by
  intro x hx
  obtain ⟨t, ht, hc⟩ := List.mem_filterMap.1 hx
  by_cases h : e.1 ∈ t ∧ e.2 ∈ t
  · rw [if_pos h] at hc; injection hc with hc; subst hc; exact third_in (hm t ht) h.1 h.2 he
  · rw [if_neg h] at hc; cases hc
/-- A hinge has four places. -/
theorem hinge_get {n : Nat} {ts : List (List Int)} (hm : ∀ t ∈ ts, triP t n) {i : Nat} {h : List Int} (hx : (hingesD n ts)[i]? = some h) : ∃ a b c d, h = [a, b, c, d] ∧ (0 ≤ a ∧ a < n) ∧ (0 ≤ b ∧ b < n) ∧ (0 ≤ c ∧ c < n) ∧ (0 ≤ d ∧ d < n) := by
  obtain ⟨e, he, hh⟩ := List.mem_flatMap.1 (List.mem_of_getElem? hx)
  unfold hingeAt at hh
  have hin := edge_in he
  split at hh
  · rename_i hl
    rw [List.mem_singleton] at hh
    subst hh
    have hti := thirds_in hm (e := e) (by omega)
    match hl2 : thirds ts e, hl with
    | [c, d], _ =>
      rw [hl2] at hti
      exact ⟨e.1, e.2, c, d, rfl, by omega, by omega, hti c (by simp), hti d (by simp)⟩
  · simp at hh
/-- What the map of triangles tells. -/
theorem tv_tri {t : List Int} {n : Int} {e : Int × Int} {i : Nat} (h : triP t n) (he : e.1 < e.2) : tv (pairsAt t i) e = if e.1 ∈ t ∧ e.2 ∈ t then [(i : Int)] else [] := by
  obtain ⟨a, b, c, rfl, h3, h4, h5, _⟩ := tri3 h
  obtain ⟨p, q⟩ := e
  unfold tv pairsAt rowE
  simp only [List.getD_cons_zero, List.getD_cons_succ, List.map_cons, List.map_nil, List.filter_cons, List.filter_nil, Prod.mk.injEq, List.mem_cons, List.not_mem_nil, or_false, decide_eq_true_eq]
  dsimp only at he
  have e1 : (min a b = p ∧ max a b = q) ↔ (p = a ∧ q = b) ∨ (p = b ∧ q = a) := by omega
  have e2 : (min b c = p ∧ max b c = q) ↔ (p = b ∧ q = c) ∨ (p = c ∧ q = b) := by omega
  have e3 : (min c a = p ∧ max c a = q) ↔ (p = c ∧ q = a) ∨ (p = a ∧ q = c) := by omega
  by_cases c1 : min a b = p ∧ max a b = q
  · have n2 : ¬ (min b c = p ∧ max b c = q) := by omega
    have n3 : ¬ (min c a = p ∧ max c a = q) := by omega
    have y : (p = a ∨ p = b ∨ p = c) ∧ (q = a ∨ q = b ∨ q = c) := by omega
    rw [if_pos c1, if_neg n2, if_neg n3, if_pos y]; rfl
  · by_cases c2 : min b c = p ∧ max b c = q
    · have n3 : ¬ (min c a = p ∧ max c a = q) := by omega
      have y : (p = a ∨ p = b ∨ p = c) ∧ (q = a ∨ q = b ∨ q = c) := by omega
      rw [if_neg c1, if_pos c2, if_neg n3, if_pos y]; rfl
    · by_cases c3 : min c a = p ∧ max c a = q
      · have y : (p = a ∨ p = b ∨ p = c) ∧ (q = a ∨ q = b ∨ q = c) := by omega
        rw [if_neg c1, if_neg c2, if_pos c3, if_pos y]; rfl
      · have y : ¬ ((p = a ∨ p = b ∨ p = c) ∧ (q = a ∨ q = b ∨ q = c)) := by omega
        rw [if_neg c1, if_neg c2, if_neg c3, if_neg y]; rfl
/-- The third places are those of the triangles that the map tells. -/
theorem thirds_map {n : Nat} {ts : List (List Int)} (hm : ∀ t ∈ ts, triP t n) {e : Int × Int} (he : e.1 < e.2) : thirds ts e = (trisOf ts e).map fun i => thirdOf (ts.getD i.toNat []) e.1 e.2 := by
  have key : ∀ k, k ≤ ts.length → thirds (ts.take k) e = (tv (pairs (ts.take k)) e).map fun i => thirdOf (ts.getD i.toNat []) e.1 e.2 := by
    intro k
    induction k with
    | zero => intro _; rfl
    | succ k ih =>
      intro hk
      have hg : ts[k]? = some ts[k] := List.getElem?_eq_getElem (by omega)
      rw [thirds_step hg, pairs_step hg, tv_app, tv_tri (hm _ (List.mem_of_getElem? hg)) he, List.map_append, ih (by omega)]
      congr 1
      have hgd : ts.getD ((k : Int)).toNat [] = ts[k] := by rw [Int.toNat_natCast, List.getD_eq_getElem?_getD, hg]; rfl
      by_cases hc : e.1 ∈ ts[k] ∧ e.2 ∈ ts[k]
      · rw [if_pos hc, if_pos hc, List.map_singleton, hgd]
      · rw [if_neg hc, if_neg hc]; rfl
  have := key ts.length (Nat.le_refl _)
  rwa [List.take_length] at this
theorem trisOf_in {n : Nat} {ts : List (List Int)} (hm : ∀ t ∈ ts, triP t n) {e : Int × Int} (he : e.1 < e.2) : ∀ i ∈ trisOf ts e, 0 ≤ i ∧ i < ts.length := by
  have key : ∀ k, k ≤ ts.length → ∀ i ∈ tv (pairs (ts.take k)) e, 0 ≤ i ∧ i < k := by
    intro k
    induction k with
    | zero => intro _ i hi; simp [pairs, tv] at hi
    | succ k ih =>
      intro hk i hi
      have hg : ts[k]? = some ts[k] := List.getElem?_eq_getElem (by omega)
      rw [pairs_step hg, tv_app, tv_tri (hm _ (List.mem_of_getElem? hg)) he, List.mem_append] at hi
      rcases hi with hi | hi
      · have := ih (by omega) i hi; omega
      · split at hi
        · simp only [List.mem_singleton] at hi; omega
        · simp at hi
  have := key ts.length (Nat.le_refl _)
  rwa [List.take_length] at this
end Go.Ab

namespace Go.Ab
/-- A step made n times, told its number. -/
def iter {α : Type} (f : Nat → α → α) (x : α) : Nat → α
  | 0 => x
  | n + 1 => f n (iter f x n)
theorem iter_step {α : Type} {f : Nat → α → α} {x y z : α} {n : Nat} (h : y = iter f x n) (hz : f n y = z) : z = iter f x (n + 1) := by subst hz h; rfl
theorem iter_to {α : Type} {f : Nat → α → α} {x o z : α} {n : Nat} (ho : o = iter f x n) (hz : z = f n o) : z = iter f x (n + 1) := by rw [hz, ho]; rfl
theorem gD {α : Type} {xs : List α} {i : Nat} {x : α} (d : α) (h : xs[i]? = some x) : xs.getD i d = x := by rw [List.getD_eq_getElem?_getD, h]; rfl
def at3 (ps : List V3) (i : Int) : V3 := ps.getD i.toNat v0
theorem at3_of {ps : List V3} {i : Int} {x : V3} (h : ps[i.toNat]? = some x) : at3 ps i = x := gD v0 h
theorem at3_nat {ps : List V3} {i : Nat} {x : V3} (h : ps[i]? = some x) : at3 ps (i : Int) = x := by unfold at3; rw [Int.toNat_natCast]; exact gD v0 h
abbrev s0 : Spr := ⟨0, 0, 0, 0⟩
abbrev half : Nat := 1056964608
abbrev fadd (x y : Nat) : Nat := fop .add .f32 x y
abbrev fsub (x y : Nat) : Nat := fop .sub .f32 x y
abbrev fmul (x y : Nat) : Nat := fop .mul .f32 x y
abbrev fdiv (x y : Nat) : Nat := fop .div .f32 x y
def gain (x long : Nat) : Nat := if fgt .f32 long 0 then fdiv x long else 0
def alongD (ps : List V3) (s : Spr) : V3 := vsub (at3 ps s.B) (at3 ps s.A)
def pullD (d : V3) (s : Spr) : Nat := gain (fmul s.Stiff (fsub (vlong d) s.Long)) (vlong d)
def normalD (ps : List V3) (t : List Int) : V3 := vcross (vsub (at3 ps (t.getD 1 0)) (at3 ps (t.getD 0 0))) (vsub (at3 ps (t.getD 2 0)) (at3 ps (t.getD 0 0)))
def bentD (ps : List V3) (h : List Int) : V3 := vsub (vadd (at3 ps (h.getD 2 0)) (at3 ps (h.getD 3 0))) (vadd (at3 ps (h.getD 0 0)) (at3 ps (h.getD 1 0)))
def Msh.hinges (m : Msh) : List (List Int) := hingesD m.ps.length m.ts
def part0 (b : Bod) (i : Nat) (e : Nat) : Nat := fadd e (fmul (fmul half (b.ss.getD i s0).Stiff) (fmul (fsub (vlong (alongD b.m.ps (b.ss.getD i s0))) (b.ss.getD i s0).Long) (fsub (vlong (alongD b.m.ps (b.ss.getD i s0))) (b.ss.getD i s0).Long)))
def part1 (b : Bod) (i : Nat) (e : Nat) : Nat := fadd e (fmul b.film (fmul half (vlong (normalD b.m.ps (b.m.ts.getD i [])))))
def part2 (b : Bod) (i : Nat) (e : Nat) : Nat := fadd e (fmul (fmul half b.bend) (vinner (bentD b.m.ps (b.m.hinges.getD i [])) (bentD b.m.ps (b.m.hinges.getD i []))))
def part3 (b : Bod) (i : Nat) (e : Nat) : Nat := fadd e (fneg .f32 (fmul (b.ws.getD i 0) (vinner b.fall (b.m.ps.getD i v0))))
def partsD (b : Bod) : List Nat := [iter (part0 b) 0 b.ss.length, iter (part1 b) 0 b.m.ts.length, iter (part2 b) 0 b.m.hinges.length, iter (part3 b) 0 b.m.ps.length]
def energyD (b : Bod) : Nat := fadd (fadd (fadd ((partsD b).getD 0 0) ((partsD b).getD 1 0)) ((partsD b).getD 2 0)) ((partsD b).getD 3 0)
def hinP (n : Nat) (h : List Int) : Prop := h.length = 4 ∧ ∀ x ∈ h, 0 ≤ x ∧ x < n
theorem hinges_ok {n : Nat} {ts : List (List Int)} (hm : meshP n ts) {i : Nat} {h : List Int} (hx : (hingesD n ts)[i]? = some h) : hinP n h := by
  obtain ⟨a, b, c, d, rfl, h1, h2, h3, h4⟩ := hinge_get hm.2.2 hx
  refine ⟨rfl, fun x hx => ?_⟩
  simp only [List.mem_cons, List.not_mem_nil, or_false] at hx
  rcases hx with rfl | rfl | rfl | rfl <;> assumption
theorem hinP_get {n : Nat} {h : List Int} {i : Nat} {x : Int} (hh : hinP n h) (hx : h[i]? = some x) : 0 ≤ x ∧ x < n := hh.2 x (List.mem_of_getElem? hx)
theorem hinges_le (n : Nat) (ts : List (List Int)) (hn : n ≤ 64) : (hingesD n ts).length ≤ 4096 := by
  have h1 := hingesTo_le n ts (edgeList n ts).length
  have h2 := edgeList_len n ts hn
  unfold hingesTo at h1
  rw [List.take_length] at h1
  exact Nat.le_trans h1 h2
/-- A push at a place. -/
def push (o : List V3) (i : Int) (v : V3) (k : Nat) : List V3 := o.set i.toNat (vadd (at3 o i) (vscale v k))
@[simp] theorem push_len (o : List V3) (i : Int) (v : V3) (k : Nat) : (push o i v k).length = o.length := by simp [push]
def force0 (b : Bod) (i : Nat) (o : List V3) : List V3 :=
  push (push o (b.ss.getD i s0).A (alongD b.m.ps (b.ss.getD i s0)) (pullD (alongD b.m.ps (b.ss.getD i s0)) (b.ss.getD i s0))) (b.ss.getD i s0).B (alongD b.m.ps (b.ss.getD i s0)) (fneg .f32 (pullD (alongD b.m.ps (b.ss.getD i s0)) (b.ss.getD i s0)))
def side (ps : List V3) (t : List Int) (n : V3) (f : Nat) (k : Nat) (o : List V3) : List V3 :=
  push o (t.getD k 0) (vcross n (vsub (at3 ps (t.getD ((k + 2) % 3) 0)) (at3 ps (t.getD ((k + 1) % 3) 0)))) f
def force1 (b : Bod) (i : Nat) (o : List V3) : List V3 :=
  iter (side b.m.ps (b.m.ts.getD i []) (normalD b.m.ps (b.m.ts.getD i [])) (gain (fneg .f32 (fmul half b.film)) (vlong (normalD b.m.ps (b.m.ts.getD i []))))) o 3
def pushH (o : List V3) (h : List Int) (v : V3) (k : Nat) : List V3 := push (push (push (push o (h.getD 0 0) v k) (h.getD 1 0) v k) (h.getD 2 0) v (fneg .f32 k)) (h.getD 3 0) v (fneg .f32 k)
def force2 (b : Bod) (i : Nat) (o : List V3) : List V3 := pushH o (b.m.hinges.getD i []) (bentD b.m.ps (b.m.hinges.getD i [])) b.bend
def force3 (b : Bod) (i : Nat) (o : List V3) : List V3 := push o (i : Int) b.fall (b.ws.getD i 0)
def forcesD (b : Bod) : List V3 := iter (force3 b) (iter (force2 b) (iter (force1 b) (iter (force0 b) (List.replicate b.m.ps.length v0) b.ss.length) b.m.ts.length) b.m.hinges.length) b.m.ps.length
theorem iter_len {f : Nat → List V3 → List V3} (hf : ∀ i o, (f i o).length = o.length) (o : List V3) : ∀ n, (iter f o n).length = o.length
  | 0 => rfl
  | n + 1 => by rw [iter, hf, iter_len hf o n]
theorem forcesD_len (b : Bod) : (forcesD b).length = b.m.ps.length := by
  unfold forcesD
  rw [iter_len (fun i o => by simp [force3]), iter_len (fun i o => by simp [force2, pushH]), iter_len (fun i o => by unfold force1; exact iter_len (fun i o => by simp [side]) o 3), iter_len (fun i o => by simp [force0]), List.length_replicate]
/-- Places moved. -/
def moveAt (v : List V3) (k : Nat) (i : Nat) (o : List V3) : List V3 := o.set i (vadd (o.getD i v0) (vscale (v.getD i v0) k))
def movedD (b : Bod) (v : List V3) (k : Nat) : Bod := { b with m := { b.m with ps := iter (moveAt v k) b.m.ps v.length } }
theorem moved_len (v : List V3) (k : Nat) (o : List V3) (n : Nat) : (iter (moveAt v k) o n).length = o.length := iter_len (fun i o => by simp [moveAt]) o n
theorem moved_same {v : List V3} {k : Nat} (o : List V3) {n i : Nat} (h : n ≤ i) : (iter (moveAt v k) o n)[i]? = o[i]? := by
  induction n with
  | zero => rfl
  | succ n ih => rw [iter, moveAt, List.getElem?_set_ne (by omega)]; exact ih (by omega)
theorem movedD_ok {b : Bod} (h : b.ok) (v : List V3) (k : Nat) : (movedD b v k).ok := by
  unfold Bod.ok Msh.ok movedD at *
  rw [moved_len]
  exact h
def innerAt (a b : List V3) (i : Nat) (e : Nat) : Nat := fadd e (vinner (a.getD i v0) (b.getD i v0))
def innerD (a b : List V3) : Nat := iter (innerAt a b) 0 a.length
def freedD (v : List V3) (held : List Int) : List V3 := iter (fun i o => o.set (held.getD i 0).toNat v0) v held.length
theorem freed_len (v : List V3) (held : List Int) : (freedD v held).length = v.length := iter_len (fun i o => by simp) v _
def stiffD (b : Bod) (held : List Int) (v : List V3) (step : Nat) : List V3 :=
  freedD ((List.range v.length).map fun i => vscale (vsub ((forcesD (movedD b v (fneg .f32 step))).getD i v0) ((forcesD (movedD b v step)).getD i v0)) (fdiv 1065353216 (fmul 1073741824 step))) held
theorem stiff_len (b : Bod) (held : List Int) (v : List V3) (step : Nat) : (stiffD b held v step).length = v.length := by unfold stiffD; rw [freed_len]; simp
theorem range_step {β : Type} (f : Nat → β) (n : Nat) : (List.range (n + 1)).map f = (List.range n).map f ++ [f n] := by rw [List.range_succ, List.map_append]; rfl
end Go.Ab

namespace Go.Ab
abbrev one32 : Nat := 1065353216
abbrev two32 : Nat := 1073741824
def canP (b : Bod) (held : List Int) (n step : Nat) : Prop := b.ok ∧ heldP b.m.ps.length held ∧ n = b.m.ps.length ∧ over32 step = true
theorem heldP_nil (n : Nat) : heldP n [] := heldJ_zero n []
def normBy (v : List V3) : Nat := fdiv one32 (root32 (innerD v v))
def normP (v : List V3) : Prop := over32 (innerD v v) = true ∧ fin32 (normBy v) = true
instance (v : List V3) : Decidable (normP v) := inferInstanceAs (Decidable (_ ∧ _))
def normD (v : List V3) : List V3 := v.map fun x => vscale x (normBy v)
def withoutD (v w : List V3) : List V3 := (List.range v.length).map fun i => vsub (v.getD i v0) (vscale (w.getD i v0) (gain (innerD v w) (innerD w w)))
def rayP (v : List V3) : Prop := fgt .f32 (innerD v v) 0 = true
def rayD (b : Bod) (held : List Int) (v : List V3) (step : Nat) : Nat := fdiv (innerD v (stiffD b held v step)) (innerD v v)
/-- Rounds with a list: the last list, or none. -/
def rounds (f : List V3 → List V3) (v : List V3) : Nat → Option (List V3)
  | 0 => some v
  | n + 1 => match rounds f v n with
    | some w => if normP (f w) then some (normD (f w)) else none
    | none => none
theorem rounds_yes {f : List V3 → List V3} {v w : List V3} {n : Nat} (h : rounds f v n = some w) (hp : normP (f w)) : rounds f v (n + 1) = some (normD (f w)) := by
  unfold rounds; rw [h]; simp only; rw [if_pos hp]
theorem rounds_no {f : List V3 → List V3} {v w : List V3} {n : Nat} (h : rounds f v n = some w) (hp : ¬ normP (f w)) : rounds f v (n + 1) = none := by
  unfold rounds; rw [h]; simp only; rw [if_neg hp]
theorem rounds_none {f : List V3 → List V3} {v : List V3} {n m : Nat} (h : rounds f v n = none) (hm : n ≤ m) : rounds f v m = none := by
  induction m with
  | zero => have : n = 0 := by omega
            subst this; exact h
  | succ m ih =>
    by_cases hn : n = m + 1
    · subst hn; exact h
    · unfold rounds; rw [ih (by omega)]
theorem norm_len (v : List V3) : (normD v).length = v.length := by simp [normD]
theorem without_len (v w : List V3) : (withoutD v w).length = v.length := by simp [withoutD]
theorem freed_step {v : List V3} {held : List Int} {i : Nat} {p : Int} (h : held[i]? = some p) : iter (fun i (o : List V3) => o.set (held.getD i 0).toNat v0) v (i + 1) = (iter (fun i (o : List V3) => o.set (held.getD i 0).toNat v0) v i).set p.toNat v0 := by
  rw [iter, gD 0 h]
theorem moveAt_step {v ps o : List V3} {k i : Nat} {x y : V3} (ho : o = iter (moveAt v k) ps i) (hx : ps[i]? = some x) (hy : v[i]? = some y) : o.set i (vadd x (vscale y k)) = iter (moveAt v k) ps (i + 1) := by
  have h1 : o[i]? = some x := by rw [ho, moved_same ps (Nat.le_refl i)]; exact hx
  rw [iter, ← ho, moveAt, gD v0 h1, gD v0 hy]
end Go.Ab

namespace Go.Ab
/-- The values of a function at the integers from -c on, up to k and without it. -/
def runK (f : Int → Nat) (c k : Int) : List Nat := (List.range (k + c).toNat).map fun (j : Nat) => f ((j : Int) - c)
theorem runK_zero (f : Int → Nat) (c : Int) : runK f c (-c) = [] := by
  unfold runK
  rw [show (-c + c).toNat = 0 by omega]; rfl
theorem runK_step (f : Int → Nat) {c k : Int} (h : -c ≤ k) : runK f c (k + 1) = runK f c k ++ [f k] := by
  unfold runK
  rw [show (k + 1 + c).toNat = (k + c).toNat + 1 by omega, range_step]
  rw [show (((k + c).toNat : Nat) : Int) - c = k by omega]
/-- The energy of a body that is moved along v by step times k. -/
def lineD (b : Bod) (v : List V3) (step : Nat) (k : Int) : Nat := energyD (movedD b v (fmul step (FloatKind.nearest .f32 k)))
end Go.Ab

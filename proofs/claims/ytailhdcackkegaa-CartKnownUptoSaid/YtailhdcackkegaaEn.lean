/- The steps of this session's own walk: one lemma an operation, over frames that are lists. -/
import Derived.Test.YtailhdcackkegaaWd
import Derived.WalkSpells
import Derived.WalkLawsBesides
namespace Go.Proofs.Ytailhdcackkegaa.Wd
open Go.RowKit
set_option linter.unusedVariables false
set_option linter.unusedSimpArgs false

abbrev fr (l : List Value) : Act := ⟨l.toArray, []⟩
def ev (l : List Value) : Operand → Value
  | .tmp t => l.getD t undef
  | .const v => v
  | .global g => .pointer (some ⟨g, 0, none⟩)
  | .func f => .func (.func f) #[] #[]
theorem fr_eval (l : List Value) : (fr l).eval = ev l := by
  funext x
  cases x <;> simp [Act.eval, ev]
theorem fr_put (l : List Value) (d : Nat) (v : Value) : (fr l).put (some d) v = fr (l.set d v) := by simp [Act.put]
theorem fr_put_none (l : List Value) (v : Value) : (fr l).put none v = fr l := rfl
/-- Does an operation with this guard come up? -/
def wan (ops : Array Oper) (l : List Value) : Option (Nat × Bool) → Bool
  | none => true
  | some (j, b) => yielded ops l.toArray j == some b

@[irreducible] def wpL (P : Program) (ops : Array Oper) (Q : Exit → Act → World → Prop) (rest : List Oper) (l : List Value) (w : World) : Prop := wpList P ops Q rest (fr l) w
theorem wpL_eq (P : Program) (ops : Array Oper) (Q : Exit → Act → World → Prop) (rest : List Oper) (l : List Value) (w : World) : wpL P ops Q rest l w = wpList P ops Q rest (fr l) w := by unfold wpL; rfl

section
variable {P : Program} {ops : Array Oper} {Q : Exit → Act → World → Prop} {rest : List Oper} {l : List Value} {w : World} {ty : TypeId} {pos : String} {after : Array Edge} {g : Option (Nat × Bool)} {d : Tmp}

theorem wan_t {j dj : Nat} {b : Bool} (h1 : (ops[j]?).bind (·.dst) = some dj) (h2 : l[dj]? = some (.bool b)) : wan ops l (some (j, b)) = true := by
  simp [wan, yielded, h1, h2]
theorem wan_f {j dj : Nat} {b c : Bool} (h1 : (ops[j]?).bind (·.dst) = some dj) (h2 : l[dj]? = some (.bool c)) (hn : (c == b) = false) : wan ops l (some (j, b)) = false := by
  simp [wan, yielded, h1, h2, hn]
theorem wan_u {j dj : Nat} {b : Bool} (h1 : (ops[j]?).bind (·.dst) = some dj) (h2 : l[dj]? = some undef) : wan ops l (some (j, b)) = false := by
  simp [wan, yielded, h1, h2, undef]
/-- A frame, its slots written out. -/
theorem norm {l' : List Value} {w : World} (hl : l = l') (h : wpL P ops Q rest l' w) : wpL P ops Q rest l w := by subst hl; exact h
theorem wan_wanted (o : Oper) : Region.wanted o (yielded ops (fr l).tmps) = wan ops l o.guard := by
  unfold Region.wanted wan
  cases o.guard with
  | none => rfl
  | some p => rfl

theorem s_run {dst : Option Tmp} {op : Op} (hw : wan ops l g = true) {v : Value} {w' : World} (hr : (execOp (ev l) ⟨dst, op, ty, pos, after, g⟩).run P w = .ok (.value v) w')
    (h : wpList P ops Q rest ((fr l).put dst v) w') : wpL P ops Q (⟨dst, op, ty, pos, after, g⟩ :: rest) l w := by
  rw [wpL_eq]
  refine wpList_step fun K hK => ?_
  rw [wan_wanted, hw, if_pos rfl]
  unfold Oper.wp
  rw [fr_eval, hr]
  exact hK _ _ h
/-- What an operation's run comes to. -/
abbrev Run (P : Program) (l : List Value) (op : Op) (w : World) (v : Value) (w' : World) : Prop := ∀ (dst : Option Tmp) (ty : TypeId) (pos : String) (after : Array Edge) (g : Option (Nat × Bool)), (execOp (ev l) ⟨dst, op, ty, pos, after, g⟩).run P w = .ok (.value v) w'

theorem s_val {op : Op} {v : Value} {w' : World} {l' : List Value} (hw : wan ops l g = true) (hr : Run P l op w v w') (hl : l.set d v = l')
    (h : wpL P ops Q rest l' w') : wpL P ops Q (⟨some d, op, ty, pos, after, g⟩ :: rest) l w :=
  s_run hw (hr _ _ _ _ _) (by rw [fr_put, hl, ← wpL_eq]; exact h)
theorem s_unit {op : Op} (hw : wan ops l g = true) {w' : World} (hr : (execOp (ev l) ⟨none, op, ty, pos, after, g⟩).run P w = .ok .skip w')
    (h : wpL P ops Q rest l w') : wpL P ops Q (⟨none, op, ty, pos, after, g⟩ :: rest) l w := by
  rw [wpL_eq] at *
  refine wpList_step fun K hK => ?_
  rw [wan_wanted, hw, if_pos rfl]
  unfold Oper.wp
  rw [fr_eval, hr]
  exact hK _ _ h
/-- Its guard says no. -/
theorem s_skip {op : Op} {l' : List Value} (hw : wan ops l g = false) (hl : l.set d undef = l') (h : wpL P ops Q rest l' w) : wpL P ops Q (⟨some d, op, ty, pos, after, g⟩ :: rest) l w := by
  rw [wpL_eq] at *
  refine wpList_step fun K hK => ?_
  rw [wan_wanted, hw, if_neg (by simp)]
  exact hK _ _ (by rw [fr_put, hl]; exact h)
/-- A truth that was reckoned, under a name. -/
theorem s_bool {op : Op} {c : Bool} {p : Prop} (hw : wan ops l g = true) (hr : Run P l op w (.bool c) w) (hp : c = true ↔ p)
    (h : ∀ c : Bool, (c = true ↔ p) → wpL P ops Q rest (l.set d (.bool c)) w) : wpL P ops Q (⟨some d, op, ty, pos, after, g⟩ :: rest) l w := s_val hw hr rfl (h c hp)
theorem s_boolv {op : Op} {c : Bool} (hw : wan ops l g = true) (hr : Run P l op w (.bool c) w) (h : ∀ b : Bool, c = b → wpL P ops Q rest (l.set d (.bool b)) w) : wpL P ops Q (⟨some d, op, ty, pos, after, g⟩ :: rest) l w := s_val hw hr rfl (h c rfl)
theorem s_nil {l' : List Value} (hl : l = l') (h : Q .normal (fr l') w) : wpL P ops Q [] l w := by subst hl; rw [wpL_eq]; exact h


theorem r_move {x : Operand} {v : Value} (hx : ev l x = v) : Run P l (.move x) w v w := fun _ _ _ _ _ => by subst hx; rfl
theorem r_assign {x : Operand} {v : Value} (hx : ev l x = v) : Run P l (.assign x) w v w := fun _ _ _ _ _ => by subst hx; rfl
theorem r_pick {c x y : Operand} {b : Bool} {v : Value} (hc : ev l c = .bool b) (hv : (if b then ev l x else ev l y) = v) : Run P l (.pick c x y) w v w := fun _ _ _ _ _ => by subst hv; simp only [execOp, hc]; rfl
theorem r_not {t : TypeId} {x : Operand} {b c : Bool} (hx : ev l x = .bool b) (hc : (!b) = c) : Run P l (.unOp .not t x) w (.bool c) w := fun _ _ _ _ _ => by subst hc; simp only [execOp, hx]; rfl
theorem r_neg {t : TypeId} {x : Operand} {k : IntKind} {n m : Int} (hx : ev l x = .int k n) (hm : k.wrap (0 - n) = m) : Run P l (.unOp .neg t x) w (.int k m) w := fun _ _ _ _ _ => by subst hm; simp only [execOp, hx]; rfl

/-! ### whole numbers -/
theorem r_bin {op : BinOp} {t t' : TypeId} {x y : Operand} {v a b : Value} (hx : ev l x = a) (hy : ev l y = b) (hg : (eqGuard op t x y a b).run P w = .ok () w) (hb : (binOp op t a b).run P w = .ok v w) : Run P l (.binOp op t x y t') w v w := fun _ _ _ _ _ => by
  simp only [execOp, hx, hy, Sem.run_bind, hg, Result.andThen, hb]
  rfl
theorem eqg_int {op : BinOp} {t : TypeId} {x y : Operand} {k k' : IntKind} {a b : Int} : (eqGuard op t x y (.int k a) (.int k' b)).run P w = .ok () w := by
  unfold eqGuard
  split <;> rfl
theorem r_add {t t' : TypeId} {x y : Operand} {k : IntKind} {a b c : Int} (hx : ev l x = .int k a) (hy : ev l y = .int k b) (hc : k.wrap (a + b) = c) : Run P l (.binOp .add t x y t') w (.int k c) w :=
  r_bin hx hy eqg_int (by subst hc; simp only [binOp, ne_eq, not_true_eq_false, if_false]; rfl)
theorem r_sub {t t' : TypeId} {x y : Operand} {k : IntKind} {a b c : Int} (hx : ev l x = .int k a) (hy : ev l y = .int k b) (hc : k.wrap (a - b) = c) : Run P l (.binOp .sub t x y t') w (.int k c) w :=
  r_bin hx hy eqg_int (by subst hc; simp only [binOp, ne_eq, not_true_eq_false, if_false]; rfl)
theorem r_mul {t t' : TypeId} {x y : Operand} {k : IntKind} {a b c : Int} (hx : ev l x = .int k a) (hy : ev l y = .int k b) (hc : k.wrap (a * b) = c) : Run P l (.binOp .mul t x y t') w (.int k c) w :=
  r_bin hx hy eqg_int (by subst hc; simp only [binOp, ne_eq, not_true_eq_false, if_false]; rfl)
theorem r_rem {t t' : TypeId} {x y : Operand} {k : IntKind} {a b c : Int} (hx : ev l x = .int k a) (hy : ev l y = .int k b) (hb : b ≠ 0) (hc : a.tmod b = c) : Run P l (.binOp .rem t x y t') w (.int k c) w :=
  r_bin hx hy eqg_int (by subst hc; simp only [binOp, ne_eq, not_true_eq_false, if_false, Op.intDiv, hb]; rfl)
theorem r_quo {t t' : TypeId} {x y : Operand} {k : IntKind} {a b c : Int} (hx : ev l x = .int k a) (hy : ev l y = .int k b) (hb : b ≠ 0) (hc : k.wrap (a.tdiv b) = c) : Run P l (.binOp .quo t x y t') w (.int k c) w :=
  r_bin hx hy eqg_int (by subst hc; simp only [binOp, ne_eq, not_true_eq_false, if_false, Op.intDiv, hb]; rfl)
theorem r_lss {t t' : TypeId} {x y : Operand} {k : IntKind} {a b : Int} (hx : ev l x = .int k a) (hy : ev l y = .int k b) : Run P l (.binOp .lss t x y t') w (.bool (decide (a < b))) w :=
  r_bin hx hy eqg_int (by simp only [binOp, ne_eq, not_true_eq_false, if_false]; rfl)
theorem r_leq {t t' : TypeId} {x y : Operand} {k : IntKind} {a b : Int} (hx : ev l x = .int k a) (hy : ev l y = .int k b) : Run P l (.binOp .leq t x y t') w (.bool (decide (a ≤ b))) w :=
  r_bin hx hy eqg_int (by simp only [binOp, ne_eq, not_true_eq_false, if_false]; rfl)
theorem r_gtr {t t' : TypeId} {x y : Operand} {k : IntKind} {a b : Int} (hx : ev l x = .int k a) (hy : ev l y = .int k b) : Run P l (.binOp .gtr t x y t') w (.bool (decide (b < a))) w :=
  r_bin hx hy eqg_int (by simp only [binOp, ne_eq, not_true_eq_false, if_false]; rfl)
theorem r_geq {t t' : TypeId} {x y : Operand} {k : IntKind} {a b : Int} (hx : ev l x = .int k a) (hy : ev l y = .int k b) : Run P l (.binOp .geq t x y t') w (.bool (decide (b ≤ a))) w :=
  r_bin hx hy eqg_int (by simp only [binOp, ne_eq, not_true_eq_false, if_false]; rfl)
theorem r_eqi {t t' : TypeId} {x y : Operand} {k : IntKind} {a b : Int} (hx : ev l x = .int k a) (hy : ev l y = .int k b) : Run P l (.binOp .eql t x y t') w (.bool (a == b)) w :=
  r_bin hx hy eqg_int (by simp only [binOp, ne_eq, not_true_eq_false, if_false]; rfl)
theorem r_nei {t t' : TypeId} {x y : Operand} {k : IntKind} {a b : Int} (hx : ev l x = .int k a) (hy : ev l y = .int k b) : Run P l (.binOp .neq t x y t') w (.bool (a != b)) w :=
  r_bin hx hy eqg_int (by simp only [binOp, ne_eq, not_true_eq_false, if_false]; rfl)

/-! ### truths, texts, and whatever else is compared -/
theorem toList_eq {a b : ByteArray} : a.toList = b.toList ↔ a = b := by
  constructor
  · intro h
    have h1 : a.data.toList = b.data.toList := by rw [← ByteArray.toList_eq, ← ByteArray.toList_eq] <;> exact h
    cases a; cases b; simp at h1; simp [h1]
  · rintro rfl; rfl
theorem r_eqs {t t' : TypeId} {x y : Operand} {a b : ByteArray} (hx : ev l x = .string a) (hy : ev l y = .string b) : Run P l (.binOp .eql t x y t') w (.bool (a.toList == b.toList)) w := r_bin hx hy rfl rfl
theorem r_nes {t t' : TypeId} {x y : Operand} {a b : ByteArray} (hx : ev l x = .string a) (hy : ev l y = .string b) : Run P l (.binOp .neq t x y t') w (.bool !(a.toList == b.toList)) w := r_bin hx hy rfl rfl
theorem r_eqs_same {t t' : TypeId} {x y : Operand} {a b : ByteArray} (hx : ev l x = .string a) (hy : ev l y = .string b) (h : a = b) : Run P l (.binOp .eql t x y t') w (.bool true) w := by
  have := r_eqs (P := P) (w := w) (t := t) (t' := t') hx hy
  rwa [show (a.toList == b.toList) = true from by rw [h]; simp] at this
theorem r_eqs_diff {t t' : TypeId} {x y : Operand} {a b : ByteArray} (hx : ev l x = .string a) (hy : ev l y = .string b) (h : a ≠ b) : Run P l (.binOp .eql t x y t') w (.bool false) w := by
  have := r_eqs (P := P) (w := w) (t := t) (t' := t') hx hy
  rwa [show (a.toList == b.toList) = false from by rw [beq_eq_false_iff_ne]; exact fun hh => h (toList_eq.1 hh)] at this
theorem r_nes_same {t t' : TypeId} {x y : Operand} {a b : ByteArray} (hx : ev l x = .string a) (hy : ev l y = .string b) (h : a = b) : Run P l (.binOp .neq t x y t') w (.bool false) w := by
  have := r_nes (P := P) (w := w) (t := t) (t' := t') hx hy
  rwa [show (!(a.toList == b.toList)) = false from by rw [h]; simp] at this
theorem r_nes_diff {t t' : TypeId} {x y : Operand} {a b : ByteArray} (hx : ev l x = .string a) (hy : ev l y = .string b) (h : a ≠ b) : Run P l (.binOp .neq t x y t') w (.bool true) w := by
  have := r_nes (P := P) (w := w) (t := t) (t' := t') hx hy
  rwa [show (!(a.toList == b.toList)) = true from by rw [Bool.not_eq_true', beq_eq_false_iff_ne]; exact fun hh => h (toList_eq.1 hh)] at this
theorem eqs_iff {a b : ByteArray} : (a.toList == b.toList) = true ↔ a = b := by rw [beq_iff_eq]; exact toList_eq
theorem nes_iff {a b : ByteArray} : (!(a.toList == b.toList)) = true ↔ a ≠ b := by simp [toList_eq]
theorem eqi_iff {a b : Int} : (a == b) = true ↔ a = b := beq_iff_eq
theorem nei_iff {a b : Int} : (a != b) = true ↔ a ≠ b := bne_iff_ne
theorem eqb_iff {a b : Bool} : (a == b) = true ↔ a = b := beq_iff_eq
theorem neb_iff {a b : Bool} : (!(a == b)) = true ↔ a ≠ b := by simp
theorem equalIn_bool (n : Nat) {t : TypeId} (ht : P.underlying t = some .bool) (a b : Bool) (w : World) : (Op.equalIn (n + 1) t (.bool a) (.bool b)).run P w = .ok (a == b) w := by
  simp only [Op.equalIn, Sem.run_bind, run_underlying ht, Result.andThen]
  rfl
theorem run_eql {t : TypeId} {a b : Value} {c : Bool} (h : (Op.equalIn 10000 t a b).run P w = .ok c w) : (do pure (.bool (← Op.equal t a b)) : Sem Value).run P w = .ok (.bool c) w := by
  unfold Op.equal Op.maxDepth
  simp only [Sem.run_bind, h, Result.andThen]
  rfl
theorem run_neq {t : TypeId} {a b : Value} {c : Bool} (h : (Op.equalIn 10000 t a b).run P w = .ok c w) : (do pure (.bool (!(← Op.equal t a b))) : Sem Value).run P w = .ok (.bool !c) w := by
  unfold Op.equal Op.maxDepth
  simp only [Sem.run_bind, h, Result.andThen]
  rfl
theorem r_eqb {t t' : TypeId} {x y : Operand} (ht : P.underlying t = some .bool) {a b : Bool} (hx : ev l x = .bool a) (hy : ev l y = .bool b) : Run P l (.binOp .eql t x y t') w (.bool (a == b)) w := r_bin hx hy rfl (run_eql (equalIn_bool 9999 ht a b w))
theorem r_neb {t t' : TypeId} {x y : Operand} (ht : P.underlying t = some .bool) {a b : Bool} (hx : ev l x = .bool a) (hy : ev l y = .bool b) : Run P l (.binOp .neq t x y t') w (.bool !(a == b)) w := r_bin hx hy rfl (run_neq (equalIn_bool 9999 ht a b w))
theorem equalIn_slice (d : Nat) {t e : TypeId} (ht : P.underlying t = some (.slice e)) (A : Option Addr) (n c : Nat) (w : World) : (Op.equalIn (d + 1) t (.slice A n c) (.slice none 0 0)).run P w = .ok A.isNone w := by
  simp only [Op.equalIn, Sem.run_bind, run_underlying ht, Result.andThen]
  cases A <;> rfl
/-- A slice held against nil. -/
theorem r_eq_nil {t t' e : TypeId} {x : Operand} (ht : P.underlying t = some (.slice e)) {A : Option Addr} {n c : Nat} (hx : ev l x = .slice A n c) : Run P l (.binOp .eql t x (.const (.slice none 0 0)) t') w (.bool A.isNone) w :=
  r_bin hx rfl rfl (run_eql (equalIn_slice 9999 ht A n c w))
theorem equalIn_ptr (d : Nat) {t e : TypeId} (ht : P.underlying t = some (.pointer e)) (a : Option Addr) (w : World) : (Op.equalIn (d + 1) t (.pointer a) (.pointer none)).run P w = .ok a.isNone w := by
  simp only [Op.equalIn, Sem.run_bind, run_underlying ht, Result.andThen]
  cases a <;> rfl
theorem r_eqp0 {t t' e : TypeId} (ht : P.underlying t = some (.pointer e)) {x y : Operand} {a : Addr} (hx : ev l x = .pointer (some a)) (hy : ev l y = .pointer none := by rfl) : Run P l (.binOp .eql t x y t') w (.bool false) w := r_bin hx hy rfl (run_eql (equalIn_ptr 9999 ht _ w))
theorem r_nep0 {t t' e : TypeId} (ht : P.underlying t = some (.pointer e)) {x y : Operand} {a : Addr} (hx : ev l x = .pointer (some a)) (hy : ev l y = .pointer none := by rfl) : Run P l (.binOp .neq t x y t') w (.bool true) w := r_bin hx hy rfl (run_neq (equalIn_ptr 9999 ht _ w))
theorem r_eq00 {t t' e : TypeId} (ht : P.underlying t = some (.pointer e)) {x y : Operand} (hx : ev l x = .pointer none) (hy : ev l y = .pointer none := by rfl) : Run P l (.binOp .eql t x y t') w (.bool true) w := r_bin hx hy rfl (run_eql (equalIn_ptr 9999 ht _ w))
theorem r_ne00 {t t' e : TypeId} (ht : P.underlying t = some (.pointer e)) {x y : Operand} (hx : ev l x = .pointer none) (hy : ev l y = .pointer none := by rfl) : Run P l (.binOp .neq t x y t') w (.bool false) w := r_bin hx hy rfl (run_neq (equalIn_ptr 9999 ht _ w))
theorem i64_in {c : Int} (h1 : -9223372036854775808 ≤ c) (h2 : c ≤ 9223372036854775807) : IntKind.i64.wrap c = c := by
  simp [IntKind.wrap, IntKind.bits, IntKind.signed]
  omega
theorem bt {p : Prop} (h : true = true ↔ p) : p := h.1 rfl
theorem bf {p : Prop} (h : false = true ↔ p) : ¬ p := fun hp => by cases h.2 hp
end
/-! ### where a way goes on -/
section
variable {Q : Exit → Act → World → Prop} {K : Act → World → Prop} {a : Act} {w : World} {id id' : Nat}
theorem x_then (h : K a w) : Exit.then K Q .normal a w := h
theorem x_then_exit (h : Q (.exit id) a w) : Exit.then K Q (.exit id) a w := h
theorem x_then_ret (h : Q .ret a w) : Exit.then K Q .ret a w := h
theorem x_block (h : Q .normal a w) : Exit.inBlock id Q .normal a w := h
theorem x_block_ret (h : Q .ret a w) : Exit.inBlock id Q .ret a w := h
theorem x_block_same (h : Q .normal a w) : Exit.inBlock id Q (.exit id) a w := by simpa [Exit.inBlock] using h
theorem x_block_other (hn : id' ≠ id) (h : Q (.exit id') a w) : Exit.inBlock id Q (.exit id') a w := by simpa [Exit.inBlock, hn] using h
end
end Go.Proofs.Ytailhdcackkegaa.Wd

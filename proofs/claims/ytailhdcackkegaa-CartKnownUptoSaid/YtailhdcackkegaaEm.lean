/- The steps of this session's own walk that touch memory, call, or build. -/
import Derived.Test.YtailhdcackkegaaEn
namespace Go.Proofs.Ytailhdcackkegaa.Wd
open Go.RowKit
set_option linter.unusedVariables false
set_option linter.unusedSimpArgs false

/-- Block b holds just these cells. -/
def Bx (w : World) (b : Nat) (cs : List Value) (t : TypeId) : Prop := w.heap[b]? = some (.cells cs.toArray t (0, 0))
theorem Bx.lt {w : World} {b : Nat} {cs : List Value} {t : TypeId} (h : Bx w b cs t) : b < w.heap.size := lt_of_block h
theorem Bx.keep {w w' : World} {b : Nat} {cs : List Value} {t : TypeId} {row : Option Nat} (h : Bx w b cs t) (hg : w.grownBy w' row) (hr : some b ≠ row) : Bx w' b cs t := (hg.block b h.lt hr).trans h
theorem Bx.below {w w' : World} {b : Nat} {cs : List Value} {t : TypeId} (h : Bx w b cs t) (hg : Below w.heap.size w w') : Bx w' b cs t := (hg.block b h.lt).trans h
theorem Bx.cell {w : World} {b : Nat} {cs : List Value} {t : TypeId} (h : Bx w b cs t) {i : Nat} {v : Value} (hv : cs[i]? = some v) : w.cell? ⟨b, i, none⟩ = some v := by
  rw [cell_of_row w b i cs.toArray t (0, 0) h]
  simpa using hv
theorem Bx.range {w : World} {b : Nat} {cs ds : List Value} {t : TypeId} (h : Bx w b cs t) (o : Nat) (hd : (cs.drop o).take ds.length = ds) : w.rangeAt b o ds := fun j v hv => by
  refine h.cell ?_
  have hj := (List.getElem?_eq_some_iff.1 hv).1
  rw [← hd, List.getElem?_take, if_pos hj, List.getElem?_drop] at hv
  exact hv
/-- w' is w but for the blocks from n up to h, and new ones. -/
structure Chg (n h : Nat) (w w' : World) : Prop where
  os : w'.os = w.os
  tape : w'.tape = w.tape
  output : w'.output = w.output
  size : w.heap.size ≤ w'.heap.size
  block : ∀ k, k < w.heap.size → ¬ (n ≤ k ∧ k < h) → w'.heap[k]? = w.heap[k]?
/-- What was there when w0 was is there still. -/
abbrev Bel (w0 w : World) : Prop := Below w0.heap.size w0 w
theorem Chg.of_bel {w w' : World} (h : Bel w w') : Chg 0 0 w w' := ⟨h.os, h.tape, h.output, h.size, fun k hk _ => h.block k hk⟩
theorem Chg.of_grown {w w' : World} {row : Option Nat} {n h : Nat} (g : w.grownBy w' row) (hr : ∀ b, row = some b → n ≤ b ∧ b < h) : Chg n h w w' := ⟨g.os, g.tape, g.output, g.size, fun k hk hn => g.block k hk (fun e => hn (hr k e.symm))⟩
theorem Chg.alloc (w : World) (o : Obj) : Chg 0 0 w (w.alloc o) := .of_grown (World.grownBy_alloc w o none) (fun b e => by cases e)
theorem Chg.one {w w' : World} {b : Nat} (g : w.grownBy w' (some b)) : Chg b (b + 1) w w' := .of_grown g (fun k e => by cases e; omega)
theorem Chg.trans {n h n' h' : Nat} {a b c : World} (x : Chg n h a b) (y : Chg n' h' b c) {n2 h2 : Nat} (hx : h ≤ n ∨ n2 ≤ n ∧ h ≤ h2) (hy : h' ≤ n' ∨ n2 ≤ n' ∧ h' ≤ h2) : Chg n2 h2 a c :=
  ⟨y.os.trans x.os, y.tape.trans x.tape, y.output.trans x.output, Nat.le_trans x.size y.size, fun k hk hn => (y.block k (Nat.lt_of_lt_of_le hk x.size) (by omega)).trans (x.block k hk (by omega))⟩
theorem Bel.refl (w : World) : Bel w w := Below.refl _ _
theorem Bel.chg {w0 w w' : World} {n h : Nat} (b : Bel w0 w) (c : Chg n h w w') (hd : h ≤ n ∨ w0.heap.size ≤ n) : Bel w0 w' :=
  b.trans ⟨c.os, c.tape, c.output, c.size, fun k hk => c.block k (Nat.lt_of_lt_of_le hk b.size) (by omega)⟩
theorem Bel.then {w0 w w' : World} (h : Bel w0 w) (k : Bel w w') : Bel w0 w' := Below.trans h (Below.mono k h.size)
theorem Bx.chg {w w' : World} {b n h : Nat} {cs : List Value} {t : TypeId} (x : Bx w b cs t) (c : Chg n h w w') (hd : h ≤ n ∨ b < n ∨ h ≤ b) : Bx w' b cs t := (c.block b x.lt (by omega)).trans x

/-- What the variable of type t at p reads as. -/
def Ld (P : Program) (w : World) (t : TypeId) (p : Addr) (v : Value) : Prop := (loadVar t p).run P w = .ok v w
theorem Ld.one {P : Program} {w : World} {t : TypeId} {d : TypeDesc} {p : Addr} {v : Value} (hu : P.underlying t = some d) (hd : d.isRow = false) (hc : w.cell? p = some v) : Ld P w t p v := by
  have hagg : (isAgg t).run P w = .ok false w := by
    unfold isAgg
    rw [Sem.run_bind, run_underlying hu w]
    cases d <;> simp_all [TypeDesc.isRow]
  unfold Ld
  simp [loadVar, Sem.run_bind, hagg, load, Sem.run, hc]
theorem Ld.row {P : Program} {w : World} {t : TypeId} {d : TypeDesc} {b o : Nat} {cs : List Value} (hu : P.underlying t = some d) (hd : d.isRow = true) (hi : (P.info? t).map (·.size) = some cs.length) (hr : w.rangeAt b o cs) : Ld P w t ⟨b, o, none⟩ (.agg cs.toArray) :=
  run_loadVar_mid w b o t cs d hr hu hd hi

/-- The place of a field in its struct. -/
def fOff (P : Program) (s : TypeId) (f : Nat) : Option Nat :=
  match P.underlying s with
  | some (.struct fs) => (fs[f]?).bind fun fd => (P.info? fd.type).bind fun i => if i.size = 0 then none else some fd.offset
  | _ => none
/-- How many cells an element of a slice has. -/
def eSz (P : Program) (t : TypeId) : Option Nat :=
  match P.underlying t with
  | some (.slice e) => (P.info? e).map (·.size)
  | _ => none
def callable (P : Program) (f : Nat) : Bool :=
  match P.funcs[f]? with
  | some fn => !(fn.name == "runtime.NumGoroutine") && fn.body.isSome
  | none => false
/-- A call that comes back with one value. -/
def CallsV (P : Program) (f : FuncId) (args : Array Value) (w : World) (R : Value → World → Prop) : Prop := Calls P f args w fun e w' => ∃ v, e = .returned v ∧ R v w'
theorem CallsV.mono {P : Program} {f : FuncId} {args : Array Value} {w : World} {R R' : Value → World → Prop} (h : CallsV P f args w R) (hr : ∀ v w', R v w' → R' v w') : CallsV P f args w R' :=
  Calls.mono h fun e w' ⟨v, he, h⟩ => ⟨v, he, hr v w' h⟩

section
variable {P : Program} {ops : Array Oper} {Q : Exit → Act → World → Prop} {rest : List Oper} {l : List Value} {w : World} {ty : TypeId} {pos : String} {after : Array Edge} {g : Option (Nat × Bool)} {d : Tmp}

theorem r_load {t : TypeId} {x : Operand} {p : Addr} {v : Value} (hx : ev l x = .pointer (some p)) (hl : Ld P w t p v) : Run P l (.load t x) w v w := fun _ _ _ _ _ => by
  unfold Ld at hl
  simp only [execOp, hx, Instr.loadAt, Instr.sureAddr, Sem.run_bind, Sem.run_pure, Result.andThen_ok, hl]
theorem r_nilck {x : Operand} {p : Addr} (hx : ev l x = .pointer (some p)) : Run P l (.nilCheck x) w (.pointer (some p)) w := fun _ _ _ _ _ => by simp only [execOp, hx]; rfl
theorem r_field {s : TypeId} {x : Operand} {f : Nat} {k : Nat} (hk : fOff P s f = some k) {b o : Nat} (hx : ev l x = .pointer (some ⟨b, o, none⟩)) : Run P l (.fieldAddr s x f) w (.pointer (some ⟨b, o + k, none⟩)) w := fun _ _ _ _ _ => by
  unfold fOff at hk
  split at hk
  · rename_i fs hs
    cases hf : fs[f]? with
    | none => simp [hf] at hk
    | some fd =>
      cases hi : P.info? fd.type with
      | none => simp [hf, hi] at hk
      | some i =>
        simp [hf, hi] at hk
        obtain ⟨hz, rfl⟩ := hk
        simp [execOp, hx, Instr.fieldAt, Instr.sureAddr, run_underlying hs, hf, fieldPlace, sizeOf, typeInfo, hi, hz, Addr.add_mid]
  · cases hk
theorem r_index {t : TypeId} {x i : Operand} {sz : Nat} (he : eSz P t = some sz) {b o n c : Nat} {k : IntKind} {j : Int} (hx : ev l x = .slice (some ⟨b, o, none⟩) n c) (hi : ev l i = .int k j) (h0 : 0 ≤ j) (h1 : j < n) :
    Run P l (.indexAddr t x i) w (.pointer (some ⟨b, o + j.toNat * sz, none⟩)) w := fun _ _ _ _ _ => by
  unfold eSz at he
  split at he
  · rename_i e hs
    cases hi' : P.info? e with
    | none => simp [hi'] at he
    | some i' =>
      simp [hi'] at he
      subst he
      simp [execOp, hx, hi, Instr.indexAt, asIntOf, run_underlying hs, h0, h1, sizeOf, typeInfo, hi', Addr.add_mid]
  · cases he
/-- How many elements an array has, and how many cells each. -/
def aSz (P : Program) (t : TypeId) : Option (Nat × Nat) :=
  match P.underlying t with
  | some (.array n e) => (P.info? e).bind fun i => if i.size = 0 then none else some (n, i.size)
  | _ => none
theorem r_indexA {t : TypeId} {x i : Operand} {sz n : Nat} (he : aSz P t = some (n, sz)) {b o : Nat} {k : IntKind} {j : Int} (hx : ev l x = .pointer (some ⟨b, o, none⟩)) (hi : ev l i = .int k j) (h0 : 0 ≤ j) (h1 : j < n) :
    Run P l (.indexAddr t x i) w (.pointer (some ⟨b, o + j.toNat * sz, none⟩)) w := fun _ _ _ _ _ => by
  unfold aSz at he
  split at he
  · rename_i n' e hs
    cases hi' : P.info? e with
    | none => simp [hi'] at he
    | some i' =>
      simp [hi'] at he
      obtain ⟨hz, rfl, rfl⟩ := he
      simp [execOp, hx, hi, Instr.indexAt, Instr.sureAddr, asIntOf, run_underlying hs, h0, h1, sizeOf, typeInfo, hi', Addr.add_mid, hz]
  · cases he
theorem r_len_slice {t : TypeId} {x : Operand} {e : TypeId} (ht : P.underlying t = some (.slice e)) {A : Option Addr} {n c : Nat} (hx : ev l x = .slice A n c) : Run P l (.call ⟨.builtin .len, #[x], #[t]⟩) w (.int .i64 n) w := fun _ _ _ _ _ => by
  simp only [execOp, resolve, invoke, builtin, Sem.run_bind, Sem.run_pure, Result.andThen_ok, List.map_toArray, List.map_cons, List.map_nil, hx]; simp [Builtin.len_, run_underlying ht, goInt]
theorem r_len_string {t : TypeId} {x : Operand} (ht : P.underlying t = some .string) {s : ByteArray} (hx : ev l x = .string s) : Run P l (.call ⟨.builtin .len, #[x], #[t]⟩) w (.int .i64 s.size) w := fun _ _ _ _ _ => by
  simp only [execOp, resolve, invoke, builtin, Sem.run_bind, Sem.run_pure, Result.andThen_ok, List.map_toArray, List.map_cons, List.map_nil, hx]; simp [Builtin.len_, run_underlying ht, goInt]
theorem r_max {x y : Operand} {ats : Array TypeId} {k k' : IntKind} {a b c : Int} (hx : ev l x = .int k a) (hy : ev l y = .int k' b) (hc : (if b > a then b else a) = c) : Run P l (.call ⟨.builtin .max, #[x, y], ats⟩) w (.int k c) w := fun _ _ _ _ _ => by
  subst hc; simp only [execOp, resolve, invoke, builtin, Sem.run_bind, Sem.run_pure, Result.andThen_ok, List.map_toArray, List.map_cons, List.map_nil, hx, hy]; simp [Builtin.max_, Builtin.max2]
theorem r_makeFunc {fn : Fn} {cap : List Operand} {vs : List Value} (hv : cap.map (ev l) = vs) : Run P l (.makeFunc fn #[] cap.toArray) w (.func fn #[] vs.toArray) w := fun _ _ _ _ _ => by subst hv; simp [execOp, Instr.makeFunc]
theorem r_extract {t : Operand} {i : Nat} {vs : Array Value} {v : Value} (ht : ev l t = .tuple vs) (hv : vs[i]? = some v) : Run P l (.extract t i) w v w := fun _ _ _ _ _ => by simp [execOp, ht, Instr.extract, hv]
theorem r_build {t : TypeId} {ps : List (Nat × Operand)} {vs : List (Nat × Value)} {v : Value} (hv : ps.map (fun p => (p.1, ev l p.2)) = vs) (hr : (Instr.build t vs.toArray).run P w = .ok v w) : Run P l (.build t ps.toArray) w v w := fun _ _ _ _ _ => by
  subst hv
  rw [← List.map_toArray] at hr
  simp only [execOp, Sem.run_bind]
  rw [show (fun (x : Nat × Operand) => match x with | (i, x) => (i, ev l x)) = (fun p => (p.1, ev l p.2)) from rfl, hr]
  rfl

/-! ### new blocks -/
theorem s_alloc (t : TypeId) {z : Value} (hz : (P.info? t).map (·.zero) = some (some z)) (hw : wan ops l g = true)
    (h : ∀ b w', b = w.heap.size → Bx w' b z.cells.toList t → Chg 0 0 w w' → w'.heap.size = b + 1 → wpL P ops Q rest (l.set d (.pointer (some ⟨b, 0, none⟩))) w') : wpL P ops Q (⟨some d, .alloc t, ty, pos, after, g⟩ :: rest) l w := by
  obtain ⟨i, hi, hzz⟩ := Option.map_eq_some_iff.1 hz
  refine s_val hw (w' := w.alloc (.cells z.cells t)) (fun _ _ _ _ _ => ?_) rfl (h w.heap.size (w.alloc (.cells z.cells t)) rfl (by simpa [Bx] using heap_alloc_new w (.cells z.cells t)) (Chg.alloc _ _) (by simp))
  simp [execOp, Instr.alloc, zeroValue, typeInfo, hi, hzz, newVar, newRow]
theorem s_box (t : TypeId) (x : Operand) (hw : wan ops l g = true) {v : Value} (hx : ev l x = v)
    (h : ∀ b w', b = w.heap.size → Bx w' b v.cells.toList t → Chg 0 0 w w' → w'.heap.size = b + 1 → wpL P ops Q rest (l.set d (.pointer (some ⟨b, 0, none⟩))) w') : wpL P ops Q (⟨some d, .box t x, ty, pos, after, g⟩ :: rest) l w := by
  refine s_val hw (w' := w.alloc (.cells v.cells t)) (fun _ _ _ _ _ => ?_) rfl (h w.heap.size (w.alloc (.cells v.cells t)) rfl (by simpa [Bx] using heap_alloc_new w (.cells v.cells t)) (Chg.alloc _ _) (by simp))
  simp [execOp, Instr.box, hx, newVar, newRow]

/-! ### stores into a block of the call's own -/
def OneL : List Value → Prop
  | [] => True
  | v :: r => v.oneCell' = true ∧ OneL r
theorem OneL.mem : ∀ {vs : List Value}, OneL vs → ∀ u ∈ vs, u.oneCell' = true
  | [], _, u, hu => by cases hu
  | v :: r, ⟨h1, h2⟩, u, hu => by
    rcases List.mem_cons.1 hu with rfl | hu
    · exact h1
    · exact OneL.mem h2 u hu
theorem s_store (t : TypeId) (x y : Operand) (hw : wan ops l g = true) {b o : Nat} {v : Value} {vs cs cs' : List Value} {bt : TypeId} (hx : ev l x = .pointer (some ⟨b, o, none⟩)) (hy : ev l y = v) (hv : v.cells.toList = vs) (hB : Bx w b cs bt)
    (hi : (P.info? t).map (·.size) = some vs.length) (h1' : OneL vs) (hl : o + vs.length ≤ cs.length) (hc : cs.take o ++ vs ++ cs.drop (o + vs.length) = cs')
    (h : ∀ w', Bx w' b cs' bt → Chg b (b + 1) w w' → w'.heap.size = w.heap.size → wpL P ops Q rest l w') : wpL P ops Q (⟨none, .store t x y, ty, pos, after, g⟩ :: rest) l w := by
  have h1 := h1'.mem
  obtain ⟨i, hi', hz⟩ := Option.map_eq_some_iff.1 hi
  subst hc
  have hst := run_storeCells_at P b o bt vs 0 cs.toArray w hB (by simpa using hl) h1
  simp only [Nat.add_zero] at hst
  refine s_unit hw (w' := w.setRow b (cs.toArray.toList.take o ++ vs ++ cs.toArray.toList.drop (o + vs.length)).toArray) ?_ (h _ (by simpa [Bx] using setRow_heap w b cs.toArray _ bt (0, 0) hB) (Chg.one ⟨rfl, rfl, rfl, by simp, fun k _ hk => setRow_other w b k _ (fun e => hk (by rw [e]))⟩) (by simp))
  simp [execOp, hx, hy, Instr.storeAt, Instr.sureAddr, storeVar, sizeOf, typeInfo, hi', hz, ← hv] at hst ⊢
  simp [hst]

/-! ### regions of blocks -/
/-- The blocks below a, and those from n up to m. -/
def Rg (a n m : Nat) : Nat → Prop := fun b => b < a ∨ n ≤ b ∧ b < m
theorem Kept.chg {a n m n' h : Nat} {w w' : World} (c : Chg n' h w w') (hd : h ≤ n' ∨ a ≤ n' ∧ (m ≤ n' ∨ h ≤ n)) : Kept (Rg a n m) w w' := fun b hb hl => c.block b hl (by unfold Rg at hb; omega)
theorem Kept.bel {w0 w : World} (h : Bel w0 w) : Kept (Rg w0.heap.size 0 0) w0 w := Kept.below h fun b hb _ => by unfold Rg at hb; omega
theorem Sl.chg {α : Type} {k : Kd α} {a n m n' h : Nat} {w w' : World} {v : Value} {xs : List α} (s : Sl k (Rg a n m) w v xs) (c : Chg n' h w w') (hd : h ≤ n' ∨ a ≤ n' ∧ (m ≤ n' ∨ h ≤ n)) : Sl k (Rg a n m) w' v xs := s.keep (Kept.chg c hd)
/-- An argument, later. -/
theorem Sl.at_ {α : Type} {k : Kd α} {w0 w : World} {v : Value} {xs : List α} (s : Sl k (Rg w0.heap.size 0 0) w0 v xs) (h : Bel w0 w) : Sl k (Rg w0.heap.size 0 0) w v xs := s.keep (Kept.bel h)
theorem Sl.rg {α : Type} {k : Kd α} {a n m a' n' m' : Nat} {w : World} {v : Value} {xs : List α} (hz : 0 < k.sz) (h : Sl k (Rg a n m) w v xs) (hh : ∀ b, b < w.heap.size → (b < a ∨ n ≤ b ∧ b < m) → (b < a' ∨ n' ≤ b ∧ b < m')) : Sl k (Rg a' n' m') w v xs := h.weak hz fun b hb hl => hh b hl hb
theorem range_below {w w' : World} {b o : Nat} {cs : List Value} (h : w.rangeAt b o cs) (hb : Below w.heap.size w w') : w'.rangeAt b o cs := fun j v hv => cell_later hb (h j v hv)
theorem range_sub {w : World} {b o : Nat} {cs ds : List Value} (h : w.rangeAt b o cs) (k : Nat) (hd : (cs.drop k).take ds.length = ds) : w.rangeAt b (o + k) ds := fun j v hv => by
  have hj := (List.getElem?_eq_some_iff.1 hv).1
  rw [← hd, List.getElem?_take, if_pos hj, List.getElem?_drop] at hv
  rw [Nat.add_assoc]
  exact h _ _ hv
theorem Sl.one {α : Type} {k : Kd α} {ok : Nat → Prop} {w : World} {v : Value} {xs : List α} (h : Sl k ok w v xs) : v.oneCell' = true := by
  obtain ⟨A, c, rfl, _⟩ := h
  rfl
theorem Sl.cells {α : Type} {k : Kd α} {ok : Nat → Prop} {w : World} {v : Value} {xs : List α} (h : Sl k ok w v xs) : v.cells.toList = [v] := by
  obtain ⟨A, c, rfl, _⟩ := h
  rfl
theorem Sl.idx {α : Type} {k : Kd α} {ok : Nat → Prop} {w : World} {v : Value} {xs : List α} (h : Sl k ok w v xs) {j : Int} (h0 : 0 ≤ j) (h1 : j < xs.length) :
    ∃ x b o cs, xs[j.toNat]? = some x ∧ k.rd ok w cs x ∧ w.rangeAt b o cs ∧ ok b ∧ ∀ (P : Program) (t : TypeId) (l : List Value) (X I : Operand) (kk : IntKind) (w' : World), eSz P t = some k.sz → ev l X = v → ev l I = .int kk j → Run P l (.indexAddr t X I) w' (.pointer (some ⟨b, o, none⟩)) w' := by
  obtain ⟨A, c, rfl, hc, hl, hr⟩ := h
  obtain ⟨b, o, rfl, hb, hi⟩ := hr (by omega)
  have hx := List.getElem?_eq_getElem (l := xs) (i := j.toNat) (by omega)
  obtain ⟨cs, h2, h3⟩ := hi _ _ hx
  exact ⟨_, b, _, cs, hx, h2, h3, hb, fun P t l X I kk w' he hX hI => r_index he hX hI h0 h1⟩
theorem Sl.len {α : Type} {k : Kd α} {ok : Nat → Prop} {w : World} {v : Value} {xs : List α} (h : Sl k ok w v xs) {P : Program} {t e : TypeId} (ht : P.underlying t = some (.slice e)) {l : List Value} {X : Operand} (hx : ev l X = v) (w' : World) : Run P l (.call ⟨.builtin .len, #[X], #[t]⟩) w' (.int .i64 xs.length) w' := by
  obtain ⟨A, c, rfl, _⟩ := h
  exact r_len_slice ht hx

/-! ### calls -/
theorem run_callFunc_go {f : Nat} (hc : callable P f = true) (args : Array Value) (w : World) : (callFunc f args).run P w = .ok (.enter f args) w := by
  unfold callable at hc
  split at hc
  · rename_i fn hf
    simp at hc
    have h2 : fn.body ≠ none := by intro hb; simp [hb] at hc
    simp [callFunc, hf, hc.1, h2]
  · cases hc
theorem s_callR {op : Call} {dst : Option Tmp} (hw : wan ops l g = true) {f : Nat} {vs : Array Value} {w0 : World} (hr : (execOp (ev l) ⟨dst, .call op, ty, pos, after, g⟩).run P w = .ok (.enter f vs) w0) {R : Value → World → Prop} (hcl : CallsV P f vs w0 R)
    (h : ∀ v w', R v w' → wpList P ops Q rest ((fr l).put dst v) w') : wpL P ops Q (⟨dst, .call op, ty, pos, after, g⟩ :: rest) l w := by
  rw [wpL_eq]
  refine wpList_step fun K hK => ?_
  rw [wan_wanted, hw, if_pos rfl]
  unfold Oper.wp
  rw [fr_eval, hr]
  refine Calls.mono hcl fun e w' hh => ?_
  obtain ⟨v, rfl, hv⟩ := hh
  exact hK _ _ (h v w' hv)
theorem s_call (f : Nat) (xs : List Operand) (ats : Array TypeId) (hc : callable P f = true) (hw : wan ops l g = true) {vs : List Value} (ha : xs.map (ev l) = vs) {R : Value → World → Prop} (hcl : CallsV P f vs.toArray w R)
    (h : ∀ v w', R v w' → wpL P ops Q rest (l.set d v) w') : wpL P ops Q (⟨some d, .call ⟨.value (.func f), xs.toArray, ats⟩, ty, pos, after, g⟩ :: rest) l w := by
  refine s_callR hw (f := f) (vs := vs.toArray) (w0 := w) ?_ hcl (fun v w' hv => by rw [fr_put, ← wpL_eq]; exact h v w' hv)
  subst ha
  simp [execOp, resolve, Deferred.ofValue, ev, invoke, run_callFunc_go hc]
theorem s_call0 (f : Nat) (xs : List Operand) (ats : Array TypeId) (hc : callable P f = true) (hw : wan ops l g = true) {vs : List Value} (ha : xs.map (ev l) = vs) {R : Value → World → Prop} (hcl : CallsV P f vs.toArray w R)
    (h : ∀ v w', R v w' → wpL P ops Q rest l w') : wpL P ops Q (⟨none, .call ⟨.value (.func f), xs.toArray, ats⟩, ty, pos, after, g⟩ :: rest) l w := by
  refine s_callR hw (f := f) (vs := vs.toArray) (w0 := w) ?_ hcl (fun v w' hv => by rw [fr_put_none, ← wpL_eq]; exact h v w' hv)
  subst ha
  simp [execOp, resolve, Deferred.ofValue, ev, invoke, run_callFunc_go hc]
/-- A call that comes back with a truth. -/
theorem s_callb (f : Nat) (xs : List Operand) (ats : Array TypeId) (hc : callable P f = true) (hw : wan ops l g = true) {vs : List Value} (ha : xs.map (ev l) = vs) {e : Bool} (hcl : CallsV P f vs.toArray w (fun r w' => r = .bool e ∧ Bel w w'))
    (h : ∀ b w', e = b → Bel w w' → wpL P ops Q rest (l.set d (.bool b)) w') : wpL P ops Q (⟨some d, .call ⟨.value (.func f), xs.toArray, ats⟩, ty, pos, after, g⟩ :: rest) l w :=
  s_call f xs ats hc hw ha hcl fun v w' hh => by obtain ⟨rfl, hb⟩ := hh; exact h _ _ rfl hb
/-- A call of a function value. -/
theorem s_dyn (c : Nat) (xs : List Operand) (ats : Array TypeId) (hw : wan ops l g = true) {f : Nat} {cap vs : List Value} (hf : ev l (.tmp c) = .func (.func f) #[] cap.toArray) (hc : callable P f = true) (ha : xs.map (ev l) ++ cap = vs) {R : Value → World → Prop} (hcl : CallsV P f vs.toArray w R)
    (h : ∀ v w', R v w' → wpL P ops Q rest (l.set d v) w') : wpL P ops Q (⟨some d, .call ⟨.value (.tmp c), xs.toArray, ats⟩, ty, pos, after, g⟩ :: rest) l w := by
  refine s_callR hw (f := f) (vs := vs.toArray) (w0 := w) ?_ hcl (fun v w' hv => by rw [fr_put, ← wpL_eq]; exact h v w' hv)
  subst ha
  simp [execOp, resolve, hf, Deferred.ofValue, invoke, run_callFunc_go hc]
theorem s_buildSlice (t : TypeId) (n : Nat) (ps : List (Nat × Operand)) (hw : wan ops l g = true) {vs : List (Nat × Value)} {cs : List Value} {e : TypeId} (hv : ps.map (fun p => (p.1, ev l p.2)) = vs)
    (hr : (Instr.buildSlice t n vs.toArray).run P w = .ok (.slice (some ⟨w.heap.size, 0, none⟩) n n) (w.alloc (.cells cs.toArray e)))
    (h : ∀ b w', b = w.heap.size → Bx w' b cs e → Chg 0 0 w w' → w'.heap.size = b + 1 → wpL P ops Q rest (l.set d (.slice (some ⟨b, 0, none⟩) n n)) w') : wpL P ops Q (⟨some d, .buildSlice t n ps.toArray, ty, pos, after, g⟩ :: rest) l w := by
  refine s_val hw (w' := w.alloc (.cells cs.toArray e)) (fun _ _ _ _ _ => ?_) rfl (h w.heap.size (w.alloc (.cells cs.toArray e)) rfl (by simpa [Bx] using heap_alloc_new w (.cells cs.toArray e)) (Chg.alloc _ _) (by simp))
  subst hv
  rw [← List.map_toArray] at hr
  simp only [execOp, Sem.run_bind]
  rw [show (fun (x : Nat × Operand) => match x with | (i, x) => (i, ev l x)) = (fun p => (p.1, ev l p.2)) from rfl, hr]
  rfl
theorem s_append {α : Type} (k : Kd α) (x y : Operand) (t : TypeId) (hw : wan ops l g = true) (hgn : g = none) (base e : Nat) {z : Value} {bytes : Nat} (ht : P.underlying t = some (.slice e)) (hinfo : (P.info? e).map (fun i => (i.zero, i.size, i.bytes)) = some (some z, k.sz, bytes)) (hzs : z.cells.size = k.sz) (hsz : 0 < k.sz) (hb0 : 0 < bytes) (hb1 : bytes ≤ 2048)
    {ok : Nat → Prop} {v : Value} {xs : List α} (hx : ev l x = v) (hown : Own k e base ok w v xs)
    {ad : Option Addr} {c : Nat} {ys : List α} {ds : List Value} (hy : ev l y = .slice ad ys.length c) (hd : Flat k ok w ds ys) (had : ys ≠ [] → ∃ b, ad = some b ∧ ∀ j u, ds[j]? = some u → w.cell? (b.add j) = some u)
    (hlim : xs.length + ys.length ≤ lim) (hbase : base ≤ w.heap.size) (hok : ∀ b, ok b → b < w.heap.size)
    (h : ∀ v' w', Own k e base ok w' v' (xs ++ ys) → w.grownBy w' v.ownBlock → (v'.ownBlock = v.ownBlock ∨ v'.ownBlock = some w.heap.size) → wpL P ops Q rest (l.set d v') w') :
    wpL P ops Q (⟨some d, .call ⟨.builtin .append, #[x, y], #[t, t]⟩, ty, pos, after, g⟩ :: rest) l w := by
  subst hgn
  rw [wpL_eq]
  refine wpList_append k w rfl x y t rfl base e z bytes ht hinfo hzs hsz ok v xs (by rw [fr_eval]; exact hx) hown ad c ys ds (by rw [fr_eval]; exact hy) hd had hlim hb0 hb1 hbase hok ?_
  intro v' w' h1 h2 h3
  rw [fr_put, ← wpL_eq]
  exact h v' w' h1 h2 h3
end

section
variable {P : Program} {ops : Array Oper} {Q : Exit → Act → World → Prop} {rest : List Oper} {l : List Value} {w : World} {ty : TypeId} {pos : String} {after : Array Edge} {g : Option (Nat × Bool)} {d : Tmp}
theorem s_dynb (c : Nat) (xs : List Operand) (ats : Array TypeId) (hw : wan ops l g = true) {f : Nat} {cap vs : List Value} (hf : ev l (.tmp c) = .func (.func f) #[] cap.toArray) (hc : callable P f = true) (ha : xs.map (ev l) ++ cap = vs) {e : Bool} {R : World → Prop} (hcl : CallsV P f vs.toArray w (fun r w' => r = .bool e ∧ R w'))
    (h : ∀ b w', e = b → R w' → wpL P ops Q rest (l.set d (.bool b)) w') : wpL P ops Q (⟨some d, .call ⟨.value (.tmp c), xs.toArray, ats⟩, ty, pos, after, g⟩ :: rest) l w :=
  s_dyn c xs ats hw hf hc ha hcl fun v w' hh => by obtain ⟨rfl, hR⟩ := hh; exact h _ _ rfl hR
end
/-! ### a slice of the call's own, its blocks told by numbers -/
/-- It lies in the blocks from n up to h; what it leads to lies there or below a. -/
def OwnX {α : Type} (k : Kd α) (e : Nat) (a n h : Nat) (w : World) (v : Value) (xs : List α) : Prop :=
  a ≤ n ∧ n ≤ h ∧ h ≤ w.heap.size ∧ (∀ g, v.ownBlock = some g → n ≤ g ∧ g < h) ∧ ∃ ok, (∀ b, ok b → b < a ∨ n ≤ b ∧ b < h) ∧ Own k e n ok w v xs
theorem OwnX.nil {α : Type} (k : Kd α) (e : Nat) {a n : Nat} {w : World} (ha : a ≤ n) (hn : n ≤ w.heap.size) : OwnX k e a n n w (.slice none 0 0) [] :=
  ⟨ha, Nat.le_refl _, hn, fun g h => by simp [Value.ownBlock] at h, fun _ => False, fun b h => h.elim, Own.nil k e n _ w⟩
theorem OwnX.chg {α : Type} {k : Kd α} {e a n h n' h' : Nat} {w w' : World} {v : Value} {xs : List α} (o : OwnX k e a n h w v xs) (c : Chg n' h' w w') (hd : h' ≤ n' ∨ a ≤ n' ∧ (h ≤ n' ∨ h' ≤ n)) : OwnX k e a n h w' v xs := by
  obtain ⟨h0, h00, h1, h2, ok, h3, h4⟩ := o
  refine ⟨h0, h00, Nat.le_trans h1 c.size, h2, ok, h3, h4.keep fun b hb hl => c.block b hl ?_⟩
  rcases hb with hb | hb
  · have := h3 b hb; omega
  · have := h2 b hb; omega
theorem OwnX.sl {α : Type} {k : Kd α} {e a n h : Nat} {w : World} {v : Value} {xs : List α} (o : OwnX k e a n h w v xs) : Sl k (Rg a n h) w v xs := by
  obtain ⟨h0, h00, h1, h2, ok, h3, h4⟩ := o
  exact h4.sl (fun b hb _ => h3 b hb) (fun b _ _ hb => .inr (h2 b hb))
theorem OwnX.lim {α : Type} {k : Kd α} {e a n h : Nat} {w : World} {v : Value} {xs : List α} (o : OwnX k e a n h w v xs) : xs.length ≤ Wd.lim := o.sl.lim
theorem OwnX.hi {α : Type} {k : Kd α} {e a n h : Nat} {w : World} {v : Value} {xs : List α} (o : OwnX k e a n h w v xs) : a ≤ n ∧ n ≤ h ∧ h ≤ w.heap.size := ⟨o.1, o.2.1, o.2.2.1⟩
section
variable {P : Program} {ops : Array Oper} {Q : Exit → Act → World → Prop} {rest : List Oper} {l : List Value} {w : World} {ty : TypeId} {pos : String} {after : Array Edge} {d : Tmp}
/-- append(x, ys...): ys' cells lie in memory; what they lead to lies in 'ok2', apart from x's own block. -/
theorem s_appendX {α : Type} (k : Kd α) {x y : Operand} {t e : TypeId} {z : Value} {bytes : Nat} (ht : P.underlying t = some (.slice e)) (hinfo : (P.info? e).map (fun i => (i.zero, i.size, i.bytes)) = some (some z, k.sz, bytes)) (hzs : z.cells.size = k.sz) (hsz : 0 < k.sz) (hb0 : 0 < bytes) (hb1 : bytes ≤ 2048)
    {a n h : Nat} {v : Value} {xs : List α} (hx : ev l x = v) (hown : OwnX k e a n h w v xs)
    {ad : Option Addr} {c : Nat} {ys : List α} {ds : List Value} (hy : ev l y = .slice ad ys.length c) {ok2 : Nat → Prop} (hd : Flat k ok2 w ds ys) (had : ys ≠ [] → ∃ b, ad = some b ∧ ∀ j u, ds[j]? = some u → w.cell? (b.add j) = some u)
    (hok2 : ∀ b, ok2 b → b < w.heap.size → b < a ∨ h ≤ b) (hlim : xs.length + ys.length ≤ lim)
    (hK : ∀ v' w', OwnX k e a n w'.heap.size w' v' (xs ++ ys) → Chg n h w w' → wpL P ops Q rest (l.set d v') w') :
    wpL P ops Q (⟨some d, .call ⟨.builtin .append, #[x, y], #[t, t]⟩, ty, pos, after, none⟩ :: rest) l w := by
  obtain ⟨h0, h00, h1, h2, ok, h3, h4⟩ := hown
  have hlt := h4.lt
  have h5 : ∀ g, v.ownBlock = some g → ¬ ok g := by obtain ⟨_, _, _, _, h⟩ := h4; exact h
  refine s_append k x y t rfl rfl n e ht hinfo hzs hsz hb0 hb1 (ok := fun b => (ok b ∨ ok2 b) ∧ b < w.heap.size) hx (h4.mono (fun b hb hl => ⟨.inl hb, hl⟩) ?_) hy (hd.weak fun b hb hl => ⟨.inr hb, hl⟩) had hlim (by omega) (fun b hb => hb.2) ?_
  · rintro g hg ⟨hg1 | hg1, hg2⟩
    · exact h5 g hg hg1
    · have := hok2 g hg1 hg2
      have := h2 g hg
      omega
  · intro v' w' ho hg hat
    have hc : Chg n h w w' := .of_grown hg h2
    refine hK v' w' ⟨h0, by have := hc.size; omega, Nat.le_refl _, fun g hgv => ?_, _, fun b hb => ?_, ho⟩ hc
    · have := (ho.lt g hgv)
      omega
    · rcases hb with ⟨hb | hb, hb2⟩
      · have := h3 b hb; have := hc.size; omega
      · have := hok2 b hb hb2; have := hc.size; omega
end

/-! ### code -/
section
variable {P : Program} {Q : Exit → Act → World → Prop} {l : List Value} {w : World}
@[irreducible] def wpC (P : Program) (c : Code) (Q : Exit → Act → World → Prop) (l : List Value) (w : World) : Prop := c.wp P Q (fr l) w
theorem wpC_eq (P : Program) (c : Code) (Q : Exit → Act → World → Prop) (l : List Value) (w : World) : wpC P c Q l w = c.wp P Q (fr l) w := by unfold wpC; rfl
theorem c_skip (h : Q .normal (fr l) w) : wpC P .skip Q l w := by rw [wpC_eq]; exact wp_skip h
theorem c_ret (h : Q .ret (fr l) w) : wpC P .ret Q l w := by rw [wpC_eq]; exact wp_ret h
theorem c_exit {id : Nat} (h : Q (.exit id) (fr l) w) : wpC P (.exit id) Q l w := by rw [wpC_eq]; exact wp_exit h
theorem x_seq {y : Code} {Q' : Exit → Act → World → Prop} (h : wpC P y Q l w) : Exit.then (fun a w => y.wp P Q a w) Q' .normal (fr l) w := by rw [wpC_eq] at h; exact h
theorem c_region {id : Nat} {os : List Oper} (h : wpL P os.toArray Q os l w) : wpC P (.region id os.toArray false) Q l w := by rw [wpC_eq]; rw [wpL_eq] at h; exact wp_region_lit h
theorem c_cond {c : Operand} {x y : Code} {t : Bool} (hc : ev l c = .bool t) (h1 : t = true → wpC P x Q l w) (h0 : t = false → wpC P y Q l w) : wpC P (.cond c x y) Q l w := by
  simp only [wpC_eq] at *
  exact wp_cond_split (by rw [fr_eval]; exact hc) h1 h0
/-- A loop: what holds at every round's head, with a measure that falls. -/
theorem c_loop {c : Code} (I : Nat → List Value → World → Prop) (k : Nat) (h0 : I k l w) (round : ∀ k l w, I k l w → wpC P c (Exit.then (fun a' w' => ∃ k' l', k' < k ∧ a' = fr l' ∧ I k' l' w') Q) l w) : wpC P (.loop c) Q l w := by
  simp only [wpC_eq] at *
  intro b kk cs
  have key : ∀ n l w, I n l w → ∃ e a' w', Q e a' w' ∧ Arrives P (lone (b.at (fr l) (.code c :: .inLoop c :: kk)) cs w) b kk cs e a' w' := by
    intro n
    induction n using Nat.strongRecOn with
    | _ n ih =>
      intro l w hI
      obtain ⟨e, a₁, w₁, hq, harr⟩ := round n l w hI b (.inLoop c :: kk) cs
      cases e with
      | normal =>
        obtain ⟨k', l', hlt, rfl, hI'⟩ := hq
        obtain ⟨e₂, a₂, w₂, hq₂, harr₂⟩ := ih k' hlt l' w₁ hI'
        exact ⟨e₂, a₂, w₂, hq₂, .of_steps (Steps.trans harr (.one step_inLoop)) harr₂⟩
      | exit id => exact ⟨_, a₁, w₁, hq, .pass (x := .inLoop c) rfl (fun _ _ => .inl (by simp)) harr⟩
      | goto l => exact ⟨_, a₁, w₁, hq, .pass (x := .inLoop c) rfl (fun _ _ => .inl (by simp)) harr⟩
      | ret => exact ⟨_, a₁, w₁, hq, .pass (x := .inLoop c) rfl (fun _ _ => .inl (by simp)) harr⟩
      | panic ch => exact ⟨_, a₁, w₁, hq, .pass (x := .inLoop c) rfl (fun _ _ => .inl (by simp)) harr⟩
      | outgrown => exact ⟨_, a₁, w₁, hq, .pass (x := .inLoop c) rfl (fun _ _ => .inl (by simp)) harr⟩
  obtain ⟨e, a', w', hq, harr⟩ := key k l w h0
  exact ⟨e, a', w', hq, .of_steps (.one step_loop) harr⟩
/-- Rounds written out. -/
def rounds (P : Program) (c : Code) (Q : Exit → Act → World → Prop) : Nat → List Value → World → Prop
  | 0, _, _ => False
  | k + 1, l, w => wpC P c (Exit.then (fun a' w' => ∃ l', a' = fr l' ∧ rounds P c Q k l' w') Q) l w
theorem c_unroll {c : Code} (n : Nat) (h : rounds P c Q n l w) : wpC P (.loop c) Q l w := by
  refine c_loop (fun k l w => rounds P c Q k l w) n h (fun k l w hk => ?_)
  cases k with
  | zero => exact hk.elim
  | succ k =>
    rw [rounds, wpC_eq] at hk
    rw [wpC_eq]
    refine wp_mono hk fun e a w hq => ?_
    cases e with
    | normal => obtain ⟨l', rfl, h⟩ := hq; exact ⟨k, l', Nat.lt_succ_self k, rfl, h⟩
    | _ => exact hq
theorem x_round {c : Code} {k : Nat} {l : List Value} {w : World} (h : wpC P c (Exit.then (fun a' w' => ∃ l', a' = fr l' ∧ rounds P c Q k l' w') Q) l w) : Exit.then (fun a' w' => ∃ l', a' = fr l' ∧ rounds P c Q (k + 1) l' w') Q .normal (fr l) w := ⟨l, rfl, h⟩
/-- One thing behind the other. -/
theorem c_seq {x y : Code} (h : wpC P x (Exit.then (fun a w => y.wp P Q a w) Q) l w) : wpC P (.seq x y) Q l w := by
  simp only [wpC_eq] at *
  exact wp_seq h
/-- What is kept of the way through x is J. -/
theorem c_cut {x y : Code} (J : List Value → World → Prop) (h : wpC P x (Exit.then (fun a w => ∃ l, a = fr l ∧ J l w) Q) l w) (k : ∀ l w, J l w → wpC P y Q l w) : wpC P (.seq x y) Q l w := by
  simp only [wpC_eq] at *
  refine wp_seq (wp_mono h fun e a w hq => ?_)
  cases e with
  | normal => obtain ⟨l', rfl, hJ⟩ := hq; exact k l' w hJ
  | _ => exact hq
theorem c_block {id : Nat} {c : Code} (h : wpC P c (Exit.inBlock id Q) l w) : wpC P (.block id c) Q l w := by
  simp only [wpC_eq] at *
  exact wp_block h
/-- A function's body. -/
theorem callsV_of {f : FuncId} {fn : Func} {c : Code} {args : List Value} {w : World} {R : Value → World → Prop} (hf : P.funcs[f]? = some fn) {n m : Nat} (hn : fn.ntmps = n) (hm : n - args.length = m) (hb : fn.body = some c) {l : List Value} (hl : args ++ List.replicate m undef = l)
    (h : wpC P c (bodyPost P fn fun e w' => ∃ v, e = .returned v ∧ R v w') l w) : CallsV P f args.toArray w R :=
  calls_of_wp hf hb (by
    have e : args.toArray ++ Array.replicate (fn.ntmps - args.toArray.size) undef = l.toArray := by subst hl; subst hm; subst hn; simp
    rw [e]; rw [wpC_eq] at h; exact h)
theorem post_ret {fn : Func} {R : Value → World → Prop} {t : Nat} {v : Value} (hr : fn.results = #[.tmp t]) (hv : l.getD t undef = v) (h : R v w) : bodyPost P fn (fun e w' => ∃ v, e = .returned v ∧ R v w') .ret (fr l) w :=
  ⟨rfl, v, by rw [results_tmp hr]; simp [← hv], v, rfl, h⟩
theorem post_ret2 {fn : Func} {R : Value → World → Prop} {t u : Nat} {v v' : Value} (hr : fn.results = #[.tmp t, .tmp u]) (hv : l.getD t undef = v) (hv' : l.getD u undef = v') (h : R (.tuple #[v, v']) w) : bodyPost P fn (fun e w' => ∃ v, e = .returned v ∧ R v w') .ret (fr l) w :=
  ⟨rfl, .tuple #[v, v'], by rw [results_tmp2 hr]; simp [← hv, ← hv'], _, rfl, h⟩
theorem post_end {fn : Func} {R : Value → World → Prop} (hr : fn.results = #[]) (h : R (.tuple #[]) w) : bodyPost P fn (fun e w' => ∃ v, e = .returned v ∧ R v w') .normal (fr l) w :=
  ⟨rfl, .tuple #[], by rw [results_none hr], _, rfl, h⟩
theorem post_end_ret {fn : Func} {R : Value → World → Prop} (hr : fn.results = #[]) (h : R (.tuple #[]) w) : bodyPost P fn (fun e w' => ∃ v, e = .returned v ∧ R v w') .ret (fr l) w :=
  ⟨rfl, .tuple #[], by rw [results_none hr], _, rfl, h⟩
/-- The one result lies in a variable of the call's own. -/
theorem post_cell {fn : Func} {R : Value → World → Prop} {t ty : Nat} {p : Addr} {v : Value} (hr : fn.results = #[.cell t ty]) (hp : l.getD t undef = .pointer (some p)) (hl : Ld P w ty p v) (h : R v w) : bodyPost P fn (fun e w' => ∃ v, e = .returned v ∧ R v w') .ret (fr l) w := by
  refine ⟨rfl, v, ?_, v, rfl, h⟩
  unfold Ld at hl
  have hp' : l[t]?.getD undef = .pointer (some p) := by simpa using hp
  simp [results, hr, hp', asAddr, hl]
/-- The first result lies in a variable of the call's own, the second in a slot. -/
theorem post_cell2 {fn : Func} {R : Value → World → Prop} {t ty u : Nat} {p : Addr} {v v' : Value} (hr : fn.results = #[.cell t ty, .tmp u]) (hp : l.getD t undef = .pointer (some p)) (hl : Ld P w ty p v) (hv' : l.getD u undef = v') (h : R (.tuple #[v, v']) w) : bodyPost P fn (fun e w' => ∃ v, e = .returned v ∧ R v w') .ret (fr l) w := by
  refine ⟨rfl, .tuple #[v, v'], ?_, _, rfl, h⟩
  unfold Ld at hl
  have hp' : l[t]?.getD undef = .pointer (some p) := by simpa using hp
  have hv2 : l[u]?.getD undef = v' := by simpa using hv'
  simp [results, hr, hp', asAddr, hl, hv2, Sem.run_bind]
end
end Go.Proofs.Ytailhdcackkegaa.Wd

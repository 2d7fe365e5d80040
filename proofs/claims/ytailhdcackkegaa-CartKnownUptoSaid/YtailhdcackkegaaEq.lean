/- Regions that draw their order, whose operations only read, reckon, or call what only adds blocks and hands back one value: one walk in the text's order. -/
import Derived.Test.YtailhdcackkegaaEm
namespace Go.Proofs.Ytailhdcackkegaa.Wd
open Go.RowKit
set_option linter.unusedVariables false
set_option linter.unusedSimpArgs false

@[irreducible] def wpQ (P : Program) (ops : Array Oper) (w0 : World) (Q : Act → Prop) (rest : List Oper) (l : List Value) : Prop := wpQuiet P ops (Below w0.heap.size w0) Q rest (fr l)
theorem wpQ_eq (P : Program) (ops : Array Oper) (w0 : World) (Q : Act → Prop) (rest : List Oper) (l : List Value) : wpQ P ops w0 Q rest l = wpQuiet P ops (Below w0.heap.size w0) Q rest (fr l) := by unfold wpQ; rfl

section
variable {P : Program} {ops : Array Oper} {Q : Act → Prop} {rest : List Oper} {l : List Value} {w : World} {ty : TypeId} {pos : String} {after : Array Edge} {g : Option (Nat × Bool)} {d : Tmp}

theorem q_val {op : Op} {v : Value} (hw : wan ops l g = true) (hr : ∀ w', Below w.heap.size w w' → Run P l op w' v w') {l' : List Value} (hl : l.set d v = l') (h : wpQ P ops w Q rest l') : wpQ P ops w Q (⟨some d, op, ty, pos, after, g⟩ :: rest) l := by
  rw [wpQ_eq] at *
  refine wpQuiet_step fun K hK => ?_
  rw [wan_wanted, hw, if_pos rfl]
  refine ⟨v, fun w' hw' => ?_, hK _ (by rw [fr_put, hl]; exact h)⟩
  unfold Oper.quietAt
  rw [fr_eval, hr w' hw' _ _ _ _ _]
  exact ⟨rfl, rfl⟩
theorem q_bool {op : Op} {c : Bool} {p : Prop} (hw : wan ops l g = true) (hr : ∀ w', Below w.heap.size w w' → Run P l op w' (.bool c) w') (hp : c = true ↔ p) (h : ∀ c : Bool, (c = true ↔ p) → wpQ P ops w Q rest (l.set d (.bool c))) :
    wpQ P ops w Q (⟨some d, op, ty, pos, after, g⟩ :: rest) l := q_val hw hr rfl (h c hp)
theorem q_boolv {op : Op} {c : Bool} (hw : wan ops l g = true) (hr : ∀ w', Below w.heap.size w w' → Run P l op w' (.bool c) w') (h : ∀ b : Bool, c = b → wpQ P ops w Q rest (l.set d (.bool b))) :
    wpQ P ops w Q (⟨some d, op, ty, pos, after, g⟩ :: rest) l := q_val hw hr rfl (h c rfl)
theorem q_skip {op : Op} {l' : List Value} (hw : wan ops l g = false) (hl : l.set d undef = l') (h : wpQ P ops w Q rest l') : wpQ P ops w Q (⟨some d, op, ty, pos, after, g⟩ :: rest) l := by
  rw [wpQ_eq] at *
  refine wpQuiet_step fun K hK => ?_
  rw [wan_wanted, hw, if_neg (by simp)]
  exact hK _ (by rw [fr_put, hl]; exact h)
theorem q_callR {op : Call} {f : Nat} {vs : Array Value} {v : Value} (hw : wan ops l g = true) (hr : ∀ w' : World, (execOp (ev l) ⟨some d, .call op, ty, pos, after, g⟩).run P w' = .ok (.enter f vs) w')
    (hcl : ∀ w', Below w.heap.size w w' → CallsV P f vs w' (fun r w'' => r = v ∧ Below w'.heap.size w' w'')) (h : wpQ P ops w Q rest (l.set d v)) : wpQ P ops w Q (⟨some d, .call op, ty, pos, after, g⟩ :: rest) l := by
  rw [wpQ_eq] at *
  refine wpQuiet_step fun K hK => ?_
  rw [wan_wanted, hw, if_pos rfl]
  refine ⟨v, fun w' hw' => ?_, hK _ (by rw [fr_put]; exact h)⟩
  unfold Oper.quietAt
  rw [fr_eval, hr w']
  refine ⟨rfl, Calls.mono (hcl w' hw') fun e w'' hh => ?_⟩
  obtain ⟨r, rfl, rfl, hb⟩ := hh
  exact ⟨rfl, hw'.trans (hb.mono hw'.size)⟩
theorem q_call {f : Nat} {xs : List Operand} {ats : Array TypeId} {vs : List Value} {v : Value} (hc : callable P f = true) (hw : wan ops l g = true) (ha : xs.map (ev l) = vs)
    (hcl : ∀ w', Below w.heap.size w w' → CallsV P f vs.toArray w' (fun r w'' => r = v ∧ Below w'.heap.size w' w'')) (h : wpQ P ops w Q rest (l.set d v)) : wpQ P ops w Q (⟨some d, .call ⟨.value (.func f), xs.toArray, ats⟩, ty, pos, after, g⟩ :: rest) l :=
  q_callR (f := f) (vs := vs.toArray) hw (fun w' => by subst ha; simp [execOp, resolve, Deferred.ofValue, ev, invoke, run_callFunc_go hc]) hcl h
theorem q_callb {f : Nat} {xs : List Operand} {ats : Array TypeId} {vs : List Value} {e : Bool} (hc : callable P f = true) (hw : wan ops l g = true) (ha : xs.map (ev l) = vs)
    (hcl : ∀ w', Below w.heap.size w w' → CallsV P f vs.toArray w' (fun r w'' => r = .bool e ∧ Bel w' w'')) (h : ∀ b, e = b → wpQ P ops w Q rest (l.set d (.bool b))) : wpQ P ops w Q (⟨some d, .call ⟨.value (.func f), xs.toArray, ats⟩, ty, pos, after, g⟩ :: rest) l :=
  q_call hc hw ha hcl (h _ rfl)
theorem q_norm {l' : List Value} (hl : l = l') (h : wpQ P ops w Q rest l') : wpQ P ops w Q rest l := by subst hl; exact h
theorem q_nil {l' : List Value} (hl : l = l') (h : Q (fr l')) : wpQ P ops w Q [] l := by subst hl; rw [wpQ_eq]; exact h
end

theorem c_draw {P : Program} {Q : Exit → Act → World → Prop} {l : List Value} {w : World} {id : Nat} {os : List Oper} (hm : P.follows .mixedOrders = true) (hB : Region.lexB .any os.toArray = true)
    (h : wpQ P os.toArray w (fun a' => ∀ w', Below w.heap.size w w' → Q .normal a' w') os l) : wpC P (.region id os.toArray true) Q l w := by
  rw [wpC_eq]
  rw [wpQ_eq] at h
  refine wp_region_quiet (C := Below w.heap.size w) hm hB ⟨rfl, rfl, rfl, Nat.le_refl _, fun _ _ => rfl⟩ ?_
  simpa using h
end Go.Proofs.Ytailhdcackkegaa.Wd

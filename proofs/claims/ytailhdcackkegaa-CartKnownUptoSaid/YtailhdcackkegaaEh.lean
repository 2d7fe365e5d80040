/- Regions that draw their order and make memory: what only reads is taken first, the others in whatever order they may come. -/
import Derived.Test.YtailhdcackkegaaEa
import Derived.OrdersHeld
namespace Go.Proofs.Ytailhdcackkegaa.Wd
open Go.RowKit
set_option linter.unusedVariables false
set_option linter.unusedSimpArgs false

def NQ (Q : Exit → Act → World → Prop) : Exit → Act → World → Prop
  | .normal, a, w => Q .normal a w
  | _, _, _ => False
@[irreducible] def wpH (P : Program) (ops : Array Oper) (S : World → Prop) (Q : Exit → Act → World → Prop) (n : Nat) (bs : List Bool) (l : List Value) (w : World) : Prop :=
  Region.noSelect ops = true → S w → wpAnyH P .any ops (NQ Q) S n bs.toArray (fr l) w
/-- An operation that is taken first. -/
@[irreducible] def wpT (P : Program) (ops : Array Oper) (S : World → Prop) (Q : Exit → Act → World → Prop) (n : Nat) (bs : List Bool) (o : Oper) (l : List Value) (w : World) : Prop :=
  ∃ d v, o.dst = some d ∧ YieldsIf P ops S o v (fr l) ∧ wpH P ops S Q n bs (l.set d v) w

section
variable {P : Program} {ops : Array Oper} {S : World → Prop} {Q : Exit → Act → World → Prop} {n : Nat} {bs bs' : List Bool} {l : List Value} {w : World} {ty : TypeId} {pos : String} {after : Array Edge} {g : Option (Nat × Bool)} {d : Tmp}

theorem h_take (i : Nat) {o : Oper} (hi : ops[i]? = some o) (hf : (Region.free .any ops bs.toArray i && (Region.ready .any ops bs.toArray).contains i) = true) (hbs : bs.set i true = bs') (h : wpT P ops S Q n bs' o l w) : wpH P ops S Q (n + 1) bs l w := by
  subst hbs
  rw [wpT] at h
  obtain ⟨d, v, hd, hy, h⟩ := h
  rw [wpH] at h ⊢
  intro hs hS
  simp only [Bool.and_eq_true] at hf
  refine wpAnyH_take hi hs hf.1 hf.2 (fun c a w h => h.elim) hy hS ?_
  have := h hs hS
  rw [hd, fr_put]
  simpa using this
theorem h_val {op : Op} {v : Value} (hw : wan ops l g = true) (hr : ∀ w', S w' → Run P l op w' v w') {l' : List Value} (hl : l.set d v = l') (h : wpH P ops S Q n bs l' w) : wpT P ops S Q n bs ⟨some d, op, ty, pos, after, g⟩ l w := by
  subst hl
  rw [wpT]
  refine ⟨d, v, rfl, .inl ⟨by rw [wan_wanted]; exact hw, fun w' hS => ?_⟩, h⟩
  rw [fr_eval]
  exact hr w' hS _ _ _ _ _
theorem h_bool {op : Op} {c : Bool} {p : Prop} (hw : wan ops l g = true) (hr : ∀ w', S w' → Run P l op w' (.bool c) w') (hp : c = true ↔ p) (h : ∀ c : Bool, (c = true ↔ p) → wpH P ops S Q n bs (l.set d (.bool c)) w) : wpT P ops S Q n bs ⟨some d, op, ty, pos, after, g⟩ l w := h_val hw hr rfl (h c hp)
theorem h_boolv {op : Op} {c : Bool} (hw : wan ops l g = true) (hr : ∀ w', S w' → Run P l op w' (.bool c) w') (h : ∀ b : Bool, c = b → wpH P ops S Q n bs (l.set d (.bool b)) w) : wpT P ops S Q n bs ⟨some d, op, ty, pos, after, g⟩ l w := h_val hw hr rfl (h c rfl)
theorem h_skip {op : Op} {l' : List Value} (hw : wan ops l g = false) (hl : l.set d undef = l') (h : wpH P ops S Q n bs l' w) : wpT P ops S Q n bs ⟨some d, op, ty, pos, after, g⟩ l w := by
  subst hl
  rw [wpT]
  exact ⟨d, undef, rfl, .inr ⟨by rw [wan_wanted]; exact hw, rfl⟩, h⟩
theorem h_norm {l' : List Value} (hl : l = l') (h : wpH P ops S Q n bs l' w) : wpH P ops S Q n bs l w := by subst hl; exact h
theorem h_nil {l' : List Value} (hr : Region.ready .any ops bs.toArray = []) (hl : l = l') (h : Q .normal (fr l') w) : wpH P ops S Q n bs l w := by
  subst hl
  rw [wpH]
  intro hs hS
  exact wpAnyH_done (Q := NQ Q) hr (show Q .normal _ _ from h) n

/-- What follows an operation that turned the world. -/
@[irreducible] def wpK (P : Program) (ops : Array Oper) (S : World → Prop) (Q : Exit → Act → World → Prop) (n : Nat) (bs : List Bool) : Exit → Act → World → Prop :=
  Exit.then (fun a' w' => ∃ l', a' = fr l' ∧ S w' ∧ wpH P ops S Q n bs l' w') (fun _ _ _ => False)
theorem x_h {l' : List Value} {w' : World} (hb : S w') (h : wpH P ops S Q n bs l' w') : wpK P ops S Q n bs .normal (fr l') w' := by
  rw [wpK]
  exact ⟨l', rfl, hb, h⟩
theorem wpOp_of_list {i : Nat} {o : Oper} (hi : ops[i]? = some o) (hs : Region.noSelect ops = true) (h : wpL P ops (wpK P ops S Q n (bs.set i true)) [o] l w) : wpOp P ops (NQ Q) i (fun a' w' => S w' ∧ wpAnyH P .any ops (NQ Q) S n ((bs.toArray).setIfInBounds i true) a' w') (fr l) w := by
  rw [wpL_eq] at h
  have hK : wpK P ops S Q n (bs.set i true) = Exit.then (fun a' w' => ∃ l', a' = fr l' ∧ S w' ∧ wpH P ops S Q n (bs.set i true) l' w') (fun _ _ _ => False) := by rw [wpK]
  rw [hK] at h
  have key : ∀ a w', (∃ l', a = fr l' ∧ S w' ∧ wpH P ops S Q n (bs.set i true) l' w') → (S w' ∧ wpAnyH P .any ops (NQ Q) S n ((bs.toArray).setIfInBounds i true) a w') := by
    rintro a w' ⟨l', rfl, hb, h⟩
    rw [wpH] at h
    refine ⟨hb, ?_⟩
    have := h hs hb
    simpa using this
  unfold wpList at h
  unfold wpOp
  simp only [hi]
  split at h
  · rename_i hw
    rw [if_pos hw]
    rcases h with h | ⟨_, h⟩
    · refine .inl ?_
      unfold Oper.wp at *
      generalize (execOp (fr l).eval o).run P w = r at *
      cases r with
      | ok nx w' =>
        cases nx <;> simp only [Oper.upon] at h ⊢
        case value u => exact key _ _ (by unfold wpList at h; exact h)
        case skip => exact key _ _ (by unfold wpList at h; exact h)
        case defer d => exact key _ _ (by unfold wpList at h; exact h)
        case enter f args => exact Calls.mono h (fun e w'' he => by cases e <;> first | exact key _ _ (by unfold wpList at he; exact he) | exact he.elim | (obtain ⟨_, _, h⟩ := he; exact h.elim))
        case row row args => exact Rows.mono h (fun _ _ he => key _ _ (by unfold wpList at he; exact he))
        all_goals exact h.elim
      | halt x w' => cases x <;> simp only [Oper.upon] at h ⊢ <;> first | exact h.elim | exact h
    · exact absurd h (by unfold LetsOut; simp [Exit.then])
  · rename_i hw
    rw [if_neg hw]
    exact key _ _ (by unfold wpList at h; exact h)
theorem h_one (i : Nat) {o : Oper} (hr : Region.ready .any ops bs.toArray = [i]) (hi : ops[i]? = some o) (hbs : bs.set i true = bs') (h : wpL P ops (wpK P ops S Q n bs') [o] l w) : wpH P ops S Q (n + 1) bs l w := by
  subst hbs
  rw [wpH]
  intro hs hS
  refine wpAnyH_all hr (by simp) fun j hj => ?_
  have e : j = i := by simpa using hj
  subst e
  exact wpOp_of_list hi hs h
theorem h_two (i j : Nat) {o o' : Oper} {bs2 : List Bool} (hr : Region.ready .any ops bs.toArray = [i, j]) (hi : ops[i]? = some o) (hj : ops[j]? = some o') (hbs : bs.set i true = bs') (hbs2 : bs.set j true = bs2) (h : wpL P ops (wpK P ops S Q n bs') [o] l w) (h2 : wpL P ops (wpK P ops S Q n bs2) [o'] l w) : wpH P ops S Q (n + 1) bs l w := by
  subst hbs; subst hbs2
  rw [wpH]
  intro hs hS
  refine wpAnyH_all hr (by simp) fun k hk => ?_
  have e : k = i ∨ k = j := by simpa using hk
  rcases e with e | e <;> subst e
  · exact wpOp_of_list hi hs h
  · exact wpOp_of_list hj hs h2
theorem h_three (i j m : Nat) {o o' o'' : Oper} {bs2 bs3 : List Bool} (hr : Region.ready .any ops bs.toArray = [i, j, m]) (hi : ops[i]? = some o) (hj : ops[j]? = some o') (hm : ops[m]? = some o'') (hbs : bs.set i true = bs') (hbs2 : bs.set j true = bs2) (hbs3 : bs.set m true = bs3)
    (h : wpL P ops (wpK P ops S Q n bs') [o] l w) (h2 : wpL P ops (wpK P ops S Q n bs2) [o'] l w) (h3 : wpL P ops (wpK P ops S Q n bs3) [o''] l w) : wpH P ops S Q (n + 1) bs l w := by
  subst hbs; subst hbs2; subst hbs3
  rw [wpH]
  intro hs hS
  refine wpAnyH_all hr (by simp) fun k hk => ?_
  have e : k = i ∨ k = j ∨ k = m := by simpa using hk
  rcases e with e | e | e <;> subst e
  · exact wpOp_of_list hi hs h
  · exact wpOp_of_list hj hs h2
  · exact wpOp_of_list hm hs h3
end

theorem c_held {P : Program} {Q : Exit → Act → World → Prop} {l : List Value} {w : World} {id : Nat} {os : List Oper} {n : Nat} {bs : List Bool} (hm : P.follows .mixedOrders = true) (hs : Region.noSelect os.toArray = true) (hn : os.length = n) (hbs : List.replicate n false = bs)
    (h : ∀ w0, Bel w w0 → w0.heap.size = w.heap.size → wpH P os.toArray (Bel w0) Q n bs l w0) : wpC P (.region id os.toArray true) Q l w := by
  subst hn; subst hbs
  rw [wpC_eq]
  refine Go.wp_mono (Q := NQ Q) ?_ (fun e a w h => by cases e <;> first | exact h | exact h.elim)
  refine wp_region_held (S := Bel { w with drawn := w.drawn + 1 }) hm ?_
  have := h { w with drawn := w.drawn + 1 } ⟨rfl, rfl, rfl, Nat.le_refl _, fun _ _ => rfl⟩ rfl
  rw [wpH] at this
  have h2 := this hs (Bel.refl _)
  simpa using h2
/-- The same with nothing kept: what reads memory is told in each order. -/
theorem c_heldT {P : Program} {Q : Exit → Act → World → Prop} {l : List Value} {w : World} {id : Nat} {os : List Oper} {n : Nat} {bs : List Bool} (hm : P.follows .mixedOrders = true) (hs : Region.noSelect os.toArray = true) (hn : os.length = n) (hbs : List.replicate n false = bs)
    (h : ∀ w0, Bel w w0 → w0.heap.size = w.heap.size → wpH P os.toArray (fun _ => True) Q n bs l w0) : wpC P (.region id os.toArray true) Q l w := by
  subst hn; subst hbs
  rw [wpC_eq]
  refine Go.wp_mono (Q := NQ Q) ?_ (fun e a w h => by cases e <;> first | exact h | exact h.elim)
  refine wp_region_held (S := fun _ => True) hm ?_
  have := h { w with drawn := w.drawn + 1 } ⟨rfl, rfl, rfl, Nat.le_refl _, fun _ _ => rfl⟩ rfl
  rw [wpH] at this
  have h2 := this hs trivial
  simpa using h2
end Go.Proofs.Ytailhdcackkegaa.Wd

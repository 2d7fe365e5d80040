/- More of this session's own steps: slices as flat cells, slices of the call's own, nil, changes joined. -/
import Derived.Test.YtailhdcackkegaaEq
import Derived.Test.YtailhdcackkegaaTy
namespace Go.Proofs.Ytailhdcackkegaa.Wd
open Go.RowKit
set_option linter.unusedVariables false
set_option linter.unusedSimpArgs false

theorem Chg.refl (n h : Nat) (w : World) : Chg n h w w := ⟨rfl, rfl, rfl, Nat.le_refl _, fun _ _ _ => rfl⟩
theorem Chg.chg {n h n' h' : Nat} {w0 w w' : World} (c : Chg n h w0 w) (c' : Chg n' h' w w') (hd : h' ≤ n' ∨ n ≤ n' ∧ h' ≤ h ∨ w0.heap.size ≤ n') : Chg n h w0 w' :=
  ⟨c'.os.trans c.os, c'.tape.trans c.tape, c'.output.trans c.output, Nat.le_trans c.size c'.size, fun k hk hn => (c'.block k (Nat.lt_of_lt_of_le hk c.size) (by omega)).trans (c.block k hk hn)⟩
theorem Chg.wide {n h n' h' : Nat} {w w' : World} (c : Chg n h w w') (hd : h ≤ n ∨ n' ≤ n ∧ h ≤ h') : Chg n' h' w w' := ⟨c.os, c.tape, c.output, c.size, fun k hk hn => c.block k hk (by omega)⟩
theorem Chg.to_bel {n h : Nat} {w w' : World} (c : Chg n h w w') (hd : h ≤ n ∨ w.heap.size ≤ n) : Bel w w' := ⟨c.os, c.tape, c.output, c.size, fun k hk => c.block k hk (by omega)⟩
theorem Kept.of_chg {ok : Nat → Prop} {n h : Nat} {w w' : World} (c : Chg n h w w') (hok : ∀ b, ok b → b < w.heap.size → b < n ∨ h ≤ b) : Kept ok w w' := fun b hb hl => c.block b hl (by have := hok b hb hl; omega)

/-- A slice's elements, their cells one behind the other. -/
theorem Sl.flat {α : Type} {k : Kd α} {ok : Nat → Prop} {w : World} {v : Value} {xs : List α} (h : Sl k ok w v xs) :
    ∃ ad c ds, v = .slice ad xs.length c ∧ Flat k ok w ds xs ∧ (xs ≠ [] → ∃ b, ad = some b ∧ ∀ j u, ds[j]? = some u → w.cell? (b.add j) = some u) := by
  obtain ⟨A, c, rfl, hc, hl, hr⟩ := h
  cases xs with
  | nil => exact ⟨A, c, [], rfl, .nil, fun h => absurd rfl h⟩
  | cons x0 xs0 =>
    obtain ⟨b, o, rfl, hb, hi⟩ := hr (by simp)
    have key : ∀ m, m ≤ (x0 :: xs0).length → ∃ ds, Flat k ok w ds ((x0 :: xs0).take m) ∧ w.rangeAt b o ds := by
      intro m
      induction m with
      | zero => exact fun _ => ⟨[], .nil, fun j v hv => by simp at hv⟩
      | succ m ih =>
        intro hm
        obtain ⟨ds, h1, h2⟩ := ih (by omega)
        have hx := List.getElem?_eq_getElem (l := x0 :: xs0) (i := m) (by omega)
        obtain ⟨cs, h3, h4⟩ := hi m _ hx
        refine ⟨ds ++ cs, ?_, fun j v hv => ?_⟩
        · rw [List.take_succ_eq_append_getElem (by omega)]
          exact .snoc h1 h3
        · have hlen : ds.length = m * k.sz := by rw [h1.len, List.length_take]; congr 1; omega
          rcases Nat.lt_or_ge j ds.length with hj | hj
          · rw [List.getElem?_append_left hj] at hv
            exact h2 j v hv
          · rw [List.getElem?_append_right hj] at hv
            have := h4 _ _ hv
            rwa [show o + m * k.sz + (j - ds.length) = o + j by omega] at this
    obtain ⟨ds, h1, h2⟩ := key _ (Nat.le_refl _)
    rw [List.take_length] at h1
    exact ⟨_, c, ds, rfl, h1, fun _ => ⟨_, rfl, fun j u hu => by rw [Addr.add_mid]; exact h2 j u hu⟩⟩
/-- One element's cells in a block of its own. -/
theorem flat_one {α : Type} {k : Kd α} {ok : Nat → Prop} {w : World} {cs : List Value} {x : α} (h : k.rd ok w cs x) : Flat k ok w cs [x] := by simpa using Flat.snoc .nil h
theorem had_bx {α : Type} {w : World} {b : Nat} {cs : List Value} {t : TypeId} {ys : List α} (h : Bx w b cs t) : ys ≠ [] → ∃ p, some (⟨b, 0, none⟩ : Addr) = some p ∧ ∀ j u, cs[j]? = some u → w.cell? (p.add j) = some u :=
  fun _ => ⟨_, rfl, fun j u hu => by rw [Addr.add_mid, Nat.zero_add]; exact h.cell hu⟩
/-- A literal slice may be appended to. -/
theorem OwnX.of_bx {α : Type} {k : Kd α} {e a n h b m : Nat} {w : World} {cs : List Value} {xs : List α} {ok : Nat → Prop} (hB : Bx w b cs e) (hF : Flat k ok w cs xs) (hm : xs.length = m) (hl : xs.length ≤ Wd.lim) (ha : a ≤ n) (hn : n ≤ b) (hh : b < h) (hs : h ≤ w.heap.size) (hok : ∀ b', ok b' → b' < w.heap.size → (b' < a ∨ n ≤ b' ∧ b' < h) ∧ b' ≠ b) :
    OwnX k e a n h w (.slice (some ⟨b, 0, none⟩) m m) xs := by
  subst hm
  refine ⟨ha, by omega, hs, fun g hg => by simp [Value.ownBlock] at hg; omega, fun b' => ok b' ∧ b' < w.heap.size, fun b' hb' => (hok b' hb'.1 hb'.2).1, hl, cs, hF.weak fun b' h1 h2 => ⟨h1, h2⟩, ⟨hF.len, .inr ⟨b, _, cs.toArray, rfl, hn, hB, Nat.le_refl _, lim_max hl, by simpa using hF.len, by simp [← hF.len]⟩⟩, fun g hg hk => ?_⟩
  simp [Value.ownBlock] at hg
  exact (hok g hk.1 hk.2).2 hg.symm

/-- Of a kind that leads nowhere. -/
def Kd.plain {α : Type} (k : Kd α) : Prop := ∀ (ok ok' : Nat → Prop) (w w' : World) (cs : List Value) (x : α), k.rd ok w cs x → k.rd ok' w' cs x
theorem Flat.any {α : Type} {k : Kd α} (hk : k.plain) {ok : Nat → Prop} {w : World} {cs : List Value} {xs : List α} (h : Flat k ok w cs xs) (ok' : Nat → Prop) (w' : World) : Flat k ok' w' cs xs := by
  induction h with
  | nil => exact .nil
  | snoc _ hx ih => exact .snoc ih (hk _ _ _ _ _ _ hx)
theorem kInt_plain : kInt.plain := fun _ _ _ _ _ _ h => h
theorem kStr_plain : Kd.str.plain := fun _ _ _ _ _ _ h => h
theorem kBool_plain : Kd.bool.plain := fun _ _ _ _ _ _ h => h
theorem kByte_plain : Kd.byte.plain := fun _ _ _ _ _ _ h => h
theorem kDot_plain : kDot.plain := fun _ _ _ _ _ _ h => kDot_cells.2 (kDot_cells.1 h)
theorem kLn_plain : kLn.plain := fun _ _ _ _ _ _ h => kLn_cells.2 (kLn_cells.1 h)

/-! ### '==' on structs -/
section
variable {P : Program} {d : Nat} {xs ys : Array Value} {f : Field} {fs : List Field} {a b : Value} {r s : Bool} {w : World}
theorem eqf_nil : (Op.eqFields d xs ys []).run P w = .ok true w := by simp [Op.eqFields]
theorem eqf_cons (hn : (f.name == "_") = false) (ha : (part f.type xs f.offset).run P w = .ok a w) (hb : (part f.type ys f.offset).run P w = .ok b w) (he : (Op.equalIn d f.type a b).run P w = .ok r w) (hr : (Op.eqFields d xs ys fs).run P w = .ok s w) : (Op.eqFields d xs ys (f :: fs)).run P w = .ok (r && s) w := by
  have hn' : f.name ≠ "_" := by simpa using hn
  rw [Op.eqFields]
  simp only [if_pos hn', Sem.run_bind, ha, hb, he, Result.andThen_ok]
  cases r
  · simp
  · simpa using hr
theorem eqf_of {t : TypeId} {fs : Array Field} (hu : P.underlying t = some (.struct fs)) (hp : P.stoodInHeld t = false) (h : (Op.eqFields d xs ys fs.toList).run P w = .ok r w) : (Op.equalIn (d + 1) t (.agg xs) (.agg ys)).run P w = .ok r w := by
  have hf : P.fieldsOf t = fs := by simp [Program.fieldsOf, hu]
  rw [run_equalIn_struct (P := P) w d t xs ys (by rw [hf]; exact hu) hp, hf]
  exact h
theorem eqi_run (d : Nat) {t : TypeId} {k : IntKind} {x y : Int} (h : P.underlying t = some (.int k)) (w : World) : (Op.equalIn (d + 1) t (.int k x) (.int k y)).run P w = .ok (x == y) w := run_equalIn_int w d t k k x y h
theorem eqs_run (d : Nat) {t : TypeId} {x y : ByteArray} (h : P.underlying t = some .string) (w : World) : (Op.equalIn (d + 1) t (.string x) (.string y)).run P w = .ok (x.toList == y.toList) w := run_equalIn_string w d t x y h
end
section
variable {P : Program} {l : List Value} {w : World} {c : Bool} {t t' : TypeId} {x y : Operand} {xs ys : Array Value}
theorem r_eq_agg (hm : P.eqGuardType P.depth t = false) (hx : ev l x = .agg xs) (hy : ev l y = .agg ys) (h : (Op.equalIn 10000 t (.agg xs) (.agg ys)).run P w = .ok c w) : Run P l (.binOp .eql t x y t') w (.bool c) w :=
  r_bin hx hy (run_eqGuard_agg w .eql t x y xs ys hm) (run_eql h)
theorem r_ne_agg (hm : P.eqGuardType P.depth t = false) (hx : ev l x = .agg xs) (hy : ev l y = .agg ys) (h : (Op.equalIn 10000 t (.agg xs) (.agg ys)).run P w = .ok c w) : Run P l (.binOp .neq t x y t') w (.bool !c) w :=
  r_bin hx hy (run_eqGuard_agg w .neq t x y xs ys hm) (run_neq h)
end
theorem not_iff {c : Bool} {p : Prop} (h : c = true ↔ p) : (!c) = true ↔ ¬ p := by rw [← h]; simp

/-- A statement as a truth. -/
noncomputable def toB (p : Prop) : Bool := @decide p (Classical.propDecidable p)
theorem toB_iff {p : Prop} : toB p = true ↔ p := by unfold toB; exact @decide_eq_true_iff p (Classical.propDecidable p)
theorem toB_t {p : Prop} (h : toB p = true) : p := toB_iff.1 h
theorem toB_f {p : Prop} (h : toB p = false) : ¬ p := fun hp => by rw [toB_iff.2 hp] at h; cases h
theorem toB_yes {p : Prop} (h : p) : toB p = true := toB_iff.2 h
theorem toB_no {p : Prop} (h : ¬ p) : toB p = false := by cases hb : toB p; rfl; exact absurd (toB_iff.1 hb) h
theorem ret_yes {p : Prop} (h : p) : Value.bool true = .bool (toB p) := by rw [toB_yes h]
theorem ret_no {p : Prop} (h : ¬ p) : Value.bool false = .bool (toB p) := by rw [toB_no h]
theorem ret_b {p : Prop} {b : Bool} (h : b = true ↔ p) : Value.bool b = .bool (toB p) := by rw [show b = toB p from by rw [Bool.eq_iff_iff, h, toB_iff]]
theorem int_eq {k : IntKind} {a b : Int} (h : a = b) : Value.int k a = .int k b := by rw [h]
theorem bool_eq {a b : Bool} (h : a = b) : Value.bool a = .bool b := by rw [h]
/-- What holds of all before i, and of i. -/
theorem all_succ {p : Nat → Prop} {i : Nat} (h : ∀ j, j < i → p j) (hi : p i) : ∀ j, j < i + 1 → p j := fun j hj => by
  rcases Nat.lt_succ_iff_lt_or_eq.1 hj with h' | rfl
  · exact h j h'
  · exact hi
theorem eq_of_all {α : Type} {xs ys : List α} (hl : xs.length = ys.length) (h : ∀ j, j < xs.length → xs[j]? = ys[j]?) : xs = ys := by
  apply List.ext_getElem?
  intro j
  rcases Nat.lt_or_ge j xs.length with hj | hj
  · exact h j hj
  · rw [List.getElem?_eq_none hj, List.getElem?_eq_none (by omega)]
theorem take_snoc {α : Type} {l : List α} {i : Nat} {e : α} (h : l[i]? = some e) : l.take (i + 1) = l.take i ++ [e] := by
  obtain ⟨h1, h2⟩ := List.getElem?_eq_some_iff.1 h
  rw [List.take_succ_eq_append_getElem h1, h2]

theorem drop_cons {α : Type} {l : List α} {i : Nat} {e : α} (h : l[i]? = some e) : l.drop i = e :: l.drop (i + 1) := by
  obtain ⟨h1, h2⟩ := List.getElem?_eq_some_iff.1 h
  rw [List.drop_eq_getElem_cons h1, h2]
/-- Is a slice nil? -/
def isNil : Value → Bool
  | .slice none _ _ => true
  | _ => false
theorem Sl.nil_of {α : Type} {k : Kd α} {ok : Nat → Prop} {w : World} {v : Value} {xs : List α} (h : Sl k ok w v xs) (hn : isNil v = true) : xs = [] := by
  obtain ⟨A, c, rfl, hc, hl, hr⟩ := h
  cases A with
  | none =>
    cases xs with
    | nil => rfl
    | cons x xs => obtain ⟨b, o, h, _⟩ := hr (by simp); cases h
  | some a => simp [isNil] at hn
theorem Sl.eq_nil {α : Type} {k : Kd α} {ok : Nat → Prop} {w : World} {v : Value} {xs : List α} (h : Sl k ok w v xs) {P : Program} {l : List Value} {t t' e : TypeId} {x : Operand} (ht : P.underlying t = some (.slice e)) (hx : ev l x = v) (w' : World) : Run P l (.binOp .eql t x (.const (.slice none 0 0)) t') w' (.bool (isNil v)) w' := by
  obtain ⟨A, c, rfl, _⟩ := h
  have := r_eq_nil (P := P) (w := w') (t' := t') ht hx
  cases A <;> exact this
end Go.Proofs.Ytailhdcackkegaa.Wd

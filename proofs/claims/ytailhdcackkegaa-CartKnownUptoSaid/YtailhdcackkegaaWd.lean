/- Words of this session's own: what lists of structs in memory read as, and what keeps a reading. -/
import Derived.WalkKit
import Derived.KernelRfl
import Derived.Deep.MidRow
import Derived.Maps.AppendAt
import Derived.Deep.QuietTactic
import Derived.BigQuiet
import Derived.Lib.Hide
namespace Go.Proofs.Ytailhdcackkegaa.Wd
open Go.RowKit
set_option linter.unusedVariables false
set_option linter.unusedSimpArgs false

/-- The blocks that 'ok' names, of those that are there, are in w' as they were in w. -/
def Kept (ok : Nat → Prop) (w w' : World) : Prop := ∀ b, ok b → b < w.heap.size → w'.heap[b]? = w.heap[b]?

theorem Kept.refl (ok : Nat → Prop) (w : World) : Kept ok w w := fun _ _ _ => rfl
theorem Kept.trans {ok : Nat → Prop} {a b c : World} (h : Kept ok a b) (k : Kept ok b c) (hs : a.heap.size ≤ b.heap.size) : Kept ok a c :=
  fun i hi hl => (k i hi (Nat.lt_of_lt_of_le hl hs)).trans (h i hi hl)
theorem Kept.below {ok : Nat → Prop} {n : Nat} {w w' : World} (h : Below n w w') (hn : ∀ b, ok b → b < w.heap.size → b < n) : Kept ok w w' := fun b hb hl => h.block b (hn b hb hl)
theorem Kept.all {ok : Nat → Prop} {w w' : World} (h : Below w.heap.size w w') : Kept ok w w' := fun b _ hl => h.block b hl
theorem Kept.grown {ok : Nat → Prop} {w w' : World} {row : Option Nat} (h : w.grownBy w' row) (hr : ∀ b, ok b → some b ≠ row) : Kept ok w w' := fun b hb hl => h.block b hl (hr b hb)
theorem Kept.weak {ok ok' : Nat → Prop} {w w' : World} (h : Kept ok w w') (ho : ∀ b, ok' b → ok b) : Kept ok' w w' := fun b hb => h b (ho b hb)
theorem Kept.cell {ok : Nat → Prop} {w w' : World} (h : Kept ok w w') {a : Addr} {v : Value} (ha : ok a.block) (hc : w.cell? a = some v) : w'.cell? a = some v :=
  (World.cell?_of_block (h a.block ha (World.block_lt_of_cell? w a hc))).trans hc
theorem Kept.range {ok : Nat → Prop} {w w' : World} (h : Kept ok w w') {b o : Nat} {cs : List Value} (hb : ok b) (hc : w.rangeAt b o cs) : w'.rangeAt b o cs :=
  fun j v hv => h.cell (a := ⟨b, o + j, none⟩) hb (hc j v hv)

/-- A kind of values: how many cells one has; what cells read as, in blocks that 'ok' names alone. -/
structure Kd (α : Type) where
  sz : Nat
  rd : (Nat → Prop) → World → List Value → α → Prop
  keep : ∀ {ok w w' cs x}, rd ok w cs x → Kept ok w w' → rd ok w' cs x
  weak : ∀ {ok ok' w cs x}, rd ok w cs x → (∀ b, ok b → b < w.heap.size → ok' b) → rd ok' w cs x
  len : ∀ {ok w cs x}, rd ok w cs x → cs.length = sz
  one : ∀ {ok w cs x}, rd ok w cs x → ∀ v ∈ cs, v.oneCell' = true

/-- One cell that leads nowhere. -/
def Kd.flat {α : Type} (enc : α → Value) (h1 : ∀ x, (enc x).oneCell' = true) : Kd α where
  sz := 1
  rd := fun _ _ cs x => cs = [enc x]
  keep := fun h _ => h
  weak := fun h _ => h
  len := fun h => by rw [h]; rfl
  one := fun h v hv => by rw [h] at hv; simp at hv; rw [hv]; exact h1 _
def Kd.int (k : IntKind) : Kd Int := Kd.flat (fun n => .int k n) (fun _ => rfl)
def Kd.bool : Kd Bool := Kd.flat (fun b => .bool b) (fun _ => rfl)
def Kd.str : Kd ByteArray := Kd.flat (fun s => .string s) (fun _ => rfl)
def Kd.byte : Kd UInt8 := Kd.flat (fun b => .int .u8 b.toNat) (fun _ => rfl)

/-- Two things one behind the other. -/
def Kd.pair {α β : Type} (d : Kd α) (e : Kd β) : Kd (α × β) where
  sz := d.sz + e.sz
  rd := fun ok w cs x => ∃ c1 c2, cs = c1 ++ c2 ∧ d.rd ok w c1 x.1 ∧ e.rd ok w c2 x.2
  keep := fun ⟨c1, c2, h, h1, h2⟩ k => ⟨c1, c2, h, d.keep h1 k, e.keep h2 k⟩
  weak := fun ⟨c1, c2, h, h1, h2⟩ k => ⟨c1, c2, h, d.weak h1 k, e.weak h2 k⟩
  len := fun ⟨c1, c2, h, h1, h2⟩ => by rw [h, List.length_append, d.len h1, e.len h2]
  one := fun ⟨c1, c2, h, h1, h2⟩ v hv => by
    rw [h] at hv
    rcases List.mem_append.1 hv with h' | h'
    · exact d.one h1 v h'
    · exact e.one h2 v h'
/-- The same memory under another type of Lean's. -/
def Kd.via {α β : Type} (d : Kd α) (f : β → α) : Kd β where
  sz := d.sz
  rd := fun ok w cs x => d.rd ok w cs (f x)
  keep := fun h k => d.keep h k
  weak := fun h k => d.weak h k
  len := fun h => d.len h
  one := fun h => d.one h

/-- The elements of a slice. -/
def Row {α : Type} (d : Kd α) (ok : Nat → Prop) (w : World) (A : Option Addr) (xs : List α) : Prop :=
  0 < xs.length → ∃ b o, A = some ⟨b, o, none⟩ ∧ ok b ∧ ∀ i x, xs[i]? = some x → ∃ cs, d.rd ok w cs x ∧ w.rangeAt b (o + i * d.sz) cs

theorem Row.keep {α : Type} {d : Kd α} {ok : Nat → Prop} {w w' : World} {A : Option Addr} {xs : List α} (h : Row d ok w A xs) (k : Kept ok w w') : Row d ok w' A xs := fun hx => by
  obtain ⟨b, o, hA, hb, hi⟩ := h hx
  exact ⟨b, o, hA, hb, fun i x hx => by
    obtain ⟨cs, hc, hr⟩ := hi i x hx
    exact ⟨cs, d.keep hc k, k.range hb hr⟩⟩
theorem rangeAt_lt {w : World} {b o : Nat} {cs : List Value} (h : w.rangeAt b o cs) (hl : 0 < cs.length) : b < w.heap.size :=
  World.block_lt_of_cell? w ⟨b, o + 0, none⟩ (h 0 _ (List.getElem?_eq_getElem hl))
theorem Row.weak {α : Type} {d : Kd α} {ok ok' : Nat → Prop} {w : World} {A : Option Addr} {xs : List α} (hz : 0 < d.sz) (h : Row d ok w A xs) (k : ∀ b, ok b → b < w.heap.size → ok' b) : Row d ok' w A xs := fun hx => by
  obtain ⟨b, o, hA, hb, hi⟩ := h hx
  refine ⟨b, o, hA, ?_, fun i x hx => ?_⟩
  · obtain ⟨cs, hc, hr⟩ := hi 0 _ (List.getElem?_eq_getElem hx)
    exact k b hb (rangeAt_lt hr (by rw [d.len hc]; exact hz))
  · obtain ⟨cs, hc, hr⟩ := hi i x hx
    exact ⟨cs, d.weak hc k, hr⟩

/-- How long a list may be here (2^36). -/
def lim : Nat := 68719476736
theorem lim_le {n : Nat} (h : n ≤ lim) : n ≤ 68719476736 := h
theorem lim_int {n : Nat} (h : n ≤ lim) : (n : Int) ≤ 9223372036854775807 := by have := lim_le h; omega
theorem lim_bytes {n bytes : Nat} (h : n ≤ lim) (hb : bytes ≤ 2048) : n * bytes ≤ 140737488355328 := by
  have h1 := Nat.mul_le_mul (lim_le h) hb
  omega
theorem lim_max {n : Nat} (h : n ≤ lim) : n ≤ maxLen := by have := lim_le h; simp only [maxLen]; omega

/-- A slice value. -/
def Sl {α : Type} (d : Kd α) (ok : Nat → Prop) (w : World) (v : Value) (xs : List α) : Prop := ∃ A c, v = .slice A xs.length c ∧ xs.length ≤ c ∧ xs.length ≤ lim ∧ Row d ok w A xs
theorem Sl.keep {α : Type} {d : Kd α} {ok : Nat → Prop} {w w' : World} {v : Value} {xs : List α} (h : Sl d ok w v xs) (k : Kept ok w w') : Sl d ok w' v xs :=
  let ⟨A, c, h1, h2, h3, h4⟩ := h; ⟨A, c, h1, h2, h3, h4.keep k⟩
theorem Sl.weak {α : Type} {d : Kd α} {ok ok' : Nat → Prop} {w : World} {v : Value} {xs : List α} (hz : 0 < d.sz) (h : Sl d ok w v xs) (k : ∀ b, ok b → b < w.heap.size → ok' b) : Sl d ok' w v xs :=
  let ⟨A, c, h1, h2, h3, h4⟩ := h; ⟨A, c, h1, h2, h3, h4.weak hz k⟩
theorem Sl.nil {α : Type} (d : Kd α) (ok : Nat → Prop) (w : World) : Sl d ok w (.slice none 0 0) [] := ⟨none, 0, rfl, Nat.le_refl _, Nat.zero_le _, fun h => by cases h⟩
theorem Sl.lim {α : Type} {d : Kd α} {ok : Nat → Prop} {w : World} {v : Value} {xs : List α} (h : Sl d ok w v xs) : xs.length ≤ lim := let ⟨_, _, _, _, h, _⟩ := h; h
theorem Sl.below {α : Type} {d : Kd α} {n : Nat} {w w' : World} {v : Value} {xs : List α} (h : Sl d (· < n) w v xs) (k : Below n w w') : Sl d (· < n) w' v xs := h.keep (Kept.below k fun _ hb _ => hb)

/-- A slice whose elements are of this kind. -/
def Kd.sl {α : Type} (d : Kd α) (hz : 0 < d.sz) : Kd (List α) where
  sz := 1
  rd := fun ok w cs xs => ∃ v, cs = [v] ∧ Sl d ok w v xs
  keep := fun ⟨v, h, h1⟩ k => ⟨v, h, h1.keep k⟩
  weak := fun ⟨v, h, h1⟩ k => ⟨v, h, h1.weak hz k⟩
  len := fun ⟨v, h, _⟩ => by rw [h]; rfl
  one := fun ⟨v, h, A, c, hv, _⟩ u hu => by rw [h] at hu; simp at hu; rw [hu, hv]; rfl

/-- A struct value. -/
def Ag {α : Type} (d : Kd α) (ok : Nat → Prop) (w : World) (v : Value) (x : α) : Prop := ∃ cs, v = .agg cs.toArray ∧ d.rd ok w cs x
theorem Ag.keep {α : Type} {d : Kd α} {ok : Nat → Prop} {w w' : World} {v : Value} {x : α} (h : Ag d ok w v x) (k : Kept ok w w') : Ag d ok w' v x :=
  let ⟨cs, h1, h2⟩ := h; ⟨cs, h1, d.keep h2 k⟩
theorem Ag.weak {α : Type} {d : Kd α} {ok ok' : Nat → Prop} {w : World} {v : Value} {x : α} (h : Ag d ok w v x) (k : ∀ b, ok b → b < w.heap.size → ok' b) : Ag d ok' w v x :=
  let ⟨cs, h1, h2⟩ := h; ⟨cs, h1, d.weak h2 k⟩

/-! ### Slices that a call builds up by append -/
/-- The cells of many, one behind the other. -/
inductive Flat {α : Type} (d : Kd α) (ok : Nat → Prop) (w : World) : List Value → List α → Prop
  | nil : Flat d ok w [] []
  | snoc {cs : List Value} {xs : List α} {c : List Value} {x : α} : Flat d ok w cs xs → d.rd ok w c x → Flat d ok w (cs ++ c) (xs ++ [x])
theorem Flat.len {α : Type} {d : Kd α} {ok : Nat → Prop} {w : World} {cs : List Value} {xs : List α} (h : Flat d ok w cs xs) : cs.length = xs.length * d.sz := by
  induction h with
  | nil => simp
  | snoc _ hx ih => simp [ih, d.len hx, Nat.add_mul]
theorem Flat.one {α : Type} {d : Kd α} {ok : Nat → Prop} {w : World} {cs : List Value} {xs : List α} (h : Flat d ok w cs xs) : ∀ v ∈ cs, v.oneCell' = true := by
  induction h with
  | nil => intro v hv; cases hv
  | snoc _ hx ih =>
    intro v hv
    rcases List.mem_append.1 hv with h | h
    · exact ih v h
    · exact d.one hx v h
theorem Flat.keep {α : Type} {d : Kd α} {ok : Nat → Prop} {w w' : World} {cs : List Value} {xs : List α} (h : Flat d ok w cs xs) (k : Kept ok w w') : Flat d ok w' cs xs := by
  induction h with
  | nil => exact .nil
  | snoc _ hx ih => exact .snoc ih (d.keep hx k)
theorem Flat.weak {α : Type} {d : Kd α} {ok ok' : Nat → Prop} {w : World} {cs : List Value} {xs : List α} (h : Flat d ok w cs xs) (k : ∀ b, ok b → b < w.heap.size → ok' b) : Flat d ok' w cs xs := by
  induction h with
  | nil => exact .nil
  | snoc _ hx ih => exact .snoc ih (d.weak hx k)
theorem Flat.append {α : Type} {d : Kd α} {ok : Nat → Prop} {w : World} {cs ds : List Value} {xs ys : List α} (h : Flat d ok w cs xs) (k : Flat d ok w ds ys) : Flat d ok w (cs ++ ds) (xs ++ ys) := by
  induction k with
  | nil => simpa using h
  | snoc _ hx ih => rw [← List.append_assoc, ← List.append_assoc]; exact .snoc ih hx
theorem Flat.at_ {α : Type} {d : Kd α} {ok : Nat → Prop} {w : World} {cs : List Value} {xs : List α} (h : Flat d ok w cs xs) : ∀ i x, xs[i]? = some x → ∃ c, d.rd ok w c x ∧ ∀ j v, c[j]? = some v → cs[i * d.sz + j]? = some v := by
  induction h with
  | nil => intro i x hx; simp at hx
  | @snoc cs xs c y hf hy ih =>
    intro i x hx
    have hl := hf.len
    rcases Nat.lt_or_ge i xs.length with h | h
    · rw [List.getElem?_append_left h] at hx
      obtain ⟨c', h1, h2⟩ := ih i x hx
      refine ⟨c', h1, fun j v hv => ?_⟩
      have hj : j < d.sz := by rw [← d.len h1]; exact (List.getElem?_eq_some_iff.1 hv).1
      have : i * d.sz + j < cs.length := by
        rw [hl]
        have := Nat.mul_le_mul_right d.sz (show i + 1 ≤ xs.length by omega)
        rw [Nat.add_mul] at this; omega
      rw [List.getElem?_append_left this]
      exact h2 j v hv
    · rw [List.getElem?_append_right h] at hx
      have hi : i - xs.length = 0 := by
        by_cases e : i - xs.length = 0
        · exact e
        · have := (List.getElem?_eq_some_iff.1 hx).1; simp at this; omega
      rw [hi] at hx
      simp at hx
      subst hx
      have e : i = xs.length := by omega
      subst e
      refine ⟨c, hy, fun j v hv => ?_⟩
      rw [← hl, List.getElem?_append_right (by omega)]
      simpa using hv

/-- A slice of the call's own, to be appended to: its own block lies from 'base' on and is none of 'ok'; what its elements lead to lies in 'ok'. -/
def Own {α : Type} (d : Kd α) (e : Nat) (base : Nat) (ok : Nat → Prop) (w : World) (v : Value) (xs : List α) : Prop :=
  xs.length ≤ lim ∧ ∃ cs, Flat d ok w cs xs ∧ w.ownsRow base e d.sz v xs.length cs ∧ ∀ g, v.ownBlock = some g → ¬ ok g
theorem Own.nil {α : Type} (d : Kd α) (e base : Nat) (ok : Nat → Prop) (w : World) : Own d e base ok w (.slice none 0 0) [] :=
  ⟨Nat.zero_le _, [], .nil, World.ownsRow_nil w base e d.sz, fun g h => by simp [Value.ownBlock] at h⟩
theorem Own.lt {α : Type} {d : Kd α} {e base : Nat} {ok : Nat → Prop} {w : World} {v : Value} {xs : List α} (h : Own d e base ok w v xs) : ∀ g, v.ownBlock = some g → base ≤ g ∧ g < w.heap.size :=
  let ⟨_, _, _, h, _⟩ := h; h.lt
theorem ownsRow_same {w w' : World} {base : Nat} {e : TypeId} {size n : Nat} {v : Value} {xs : List Value} (h : w.ownsRow base e size v n xs) (hk : ∀ g, v.ownBlock = some g → w'.heap[g]? = w.heap[g]?) : w'.ownsRow base e size v n xs := by
  refine ⟨h.1, ?_⟩
  rcases h.2 with hn | ⟨g, cap, cur, rfl, hb, hgg, rest⟩
  · exact .inl hn
  · exact .inr ⟨g, cap, cur, rfl, hb, (hk g rfl).trans hgg, rest⟩
/-- Nothing of it has turned. -/
theorem Own.keep {α : Type} {d : Kd α} {e base : Nat} {ok : Nat → Prop} {w w' : World} {v : Value} {xs : List α} (h : Own d e base ok w v xs) (k : Kept (fun b => ok b ∨ v.ownBlock = some b) w w') : Own d e base ok w' v xs := by
  have hlt := h.lt
  obtain ⟨h0, cs, h1, h2, h3⟩ := h
  exact ⟨h0, cs, h1.keep (k.weak fun b hb => .inl hb), ownsRow_same h2 (fun g hg => k g (.inr hg) (hlt g hg).2), h3⟩
theorem Own.below {α : Type} {d : Kd α} {e base : Nat} {ok : Nat → Prop} {w w' : World} {v : Value} {xs : List α} (h : Own d e base ok w v xs) (k : Below w.heap.size w w') : Own d e base ok w' v xs := h.keep (Kept.all k)
theorem Own.mono {α : Type} {d : Kd α} {e base : Nat} {ok ok' : Nat → Prop} {w : World} {v : Value} {xs : List α} (h : Own d e base ok w v xs) (k : ∀ b, ok b → b < w.heap.size → ok' b) (hn : ∀ g, v.ownBlock = some g → ¬ ok' g) : Own d e base ok' w v xs :=
  let ⟨h0, cs, h1, h2, _⟩ := h; ⟨h0, cs, h1.weak k, h2, hn⟩
/-- It reads as a slice. -/
theorem Own.sl {α : Type} {d : Kd α} {e base : Nat} {ok ok' : Nat → Prop} {w : World} {v : Value} {xs : List α} (h : Own d e base ok w v xs) (k : ∀ b, ok b → b < w.heap.size → ok' b) (hb : ∀ b, base ≤ b → b < w.heap.size → (v.ownBlock = some b) → ok' b) : Sl d ok' w v xs := by
  have hlt := h.lt
  obtain ⟨h0, cs, h1, h2, h3⟩ := h
  rcases h2.2 with ⟨rfl, hn⟩ | ⟨g, cap, cur, rfl, hg, hgg, hc1, hc2, hc3, hc4⟩
  · have : xs = [] := List.eq_nil_of_length_eq_zero hn
    subst this
    exact Sl.nil _ _ _
  · refine ⟨some ⟨g, 0, none⟩, cap, rfl, hc1, h0, fun _ => ⟨g, 0, rfl, hb g (hlt g rfl).1 (hlt g rfl).2 rfl, fun i x hx => ?_⟩⟩
    obtain ⟨c, hr, hj⟩ := h1.at_ i x hx
    refine ⟨c, d.weak hr k, fun j v hv => ?_⟩
    have h5 := hj j v hv
    rw [← hc4, List.getElem?_take] at h5
    split at h5
    · rw [cell_of_row w g _ cur e (0, 0) hgg]
      simpa using h5
    · cases h5

/-- append of nothing. -/
theorem run_append_none {P : Program} (w : World) (t ty e : TypeId) (i : TypeInfo) (ht : P.underlying t = some (.slice e)) (hi : P.info? e = some i) (A : Option Addr) (n cap c : Nat) (hn : n ≤ cap) :
    (Builtin.append_ #[t, t] ty #[.slice A n cap, .slice none 0 c]).run P w = .ok (.slice A n cap) w := by
  cases A <;> simp [Builtin.append_, run_underlying ht, sizeOf, typeInfo, hi, Builtin.lenOf, hn, Builtin.firstCells, storeCells]

section append
variable {P : Program} {ops : Array Oper} {rest : List Oper} {o : Oper} {a : Act} {Q : Exit → Act → World → Prop}
/-- append(v, ys...): ys lie at 'ad'. -/
theorem wpList_append {α : Type} (d : Kd α) (w : World) (hgd : o.guard = none) (s x : Operand) (t : TypeId)
    (ho : o.op = .call { callee := .builtin .append, args := #[s, x], argTypes := #[t, t] })
    (base e : Nat) (z : Value) (bytes : Nat) (ht : P.underlying t = some (.slice e)) (hinfo : (P.info? e).map (fun i => (i.zero, i.size, i.bytes)) = some (some z, d.sz, bytes)) (hzs : z.cells.size = d.sz) (hsz : 0 < d.sz)
    (ok : Nat → Prop) (v : Value) (xs : List α) (hs : a.eval s = v) (hown : Own d e base ok w v xs)
    (ad : Option Addr) (c : Nat) (ys : List α) (ds : List Value) (hx : a.eval x = .slice ad ys.length c) (hd : Flat d ok w ds ys) (had : ys ≠ [] → ∃ b, ad = some b ∧ ∀ j u, ds[j]? = some u → w.cell? (b.add j) = some u)
    (hlim : xs.length + ys.length ≤ lim) (hb0 : 0 < bytes) (hb1 : bytes ≤ 2048) (hbase : base ≤ w.heap.size)
    (hok : ∀ b, ok b → b < w.heap.size)
    (h : ∀ v' w', Own d e base ok w' v' (xs ++ ys) → w.grownBy w' v.ownBlock → (v'.ownBlock = v.ownBlock ∨ v'.ownBlock = some w.heap.size) → wpList P ops Q rest (a.put o.dst v') w') : wpList P ops Q (o :: rest) a w := by
  obtain ⟨i0, hi, hzz⟩ := Option.map_eq_some_iff.1 hinfo
  simp only [Prod.mk.injEq] at hzz
  obtain ⟨hz0, hz1, hz2⟩ := hzz
  have hlt := hown.lt
  obtain ⟨h0, cs, h1, h2, h3⟩ := hown
  have h63 : xs.length + ys.length ≤ maxLen := lim_max hlim
  have hbytes := lim_bytes hlim hb1
  have key : ∀ (b : Addr), ad = some b → (∀ j u, ds[j]? = some u → w.cell? (b.add j) = some u) → wpList P ops Q (o :: rest) a w := by
    rintro b rfl hcell
    refine wpList_append_own_at w hgd s x t ho base e i0 z d.sz bytes ht hi hz0 hz1 hz2 hzs hsz v xs.length cs hs h2 b ys.length c ds hx (by rw [hd.len]) hcell hd.one h63 hbytes hbase ?_
    intro v' w' hown' hg _ hat
    have hk : Kept ok w w' := Kept.grown hg (fun b hb e => h3 b e.symm hb)
    refine h v' w' ⟨by simpa using hlim, cs ++ ds, (h1.append hd).keep hk, by simpa using hown', ?_⟩ hg ?_
    · intro g hgv hokg
      rcases hat with hat | hat
      · exact h3 g (hat ▸ hgv) hokg
      · rw [hat] at hgv
        have := hok g hokg
        simp at hgv; omega
    · rcases hat with hat | hat
      · exact .inl hat
      · exact .inr hat
  cases ys with
  | cons y ys =>
    obtain ⟨b, hb, hc⟩ := had (by simp)
    exact key b hb hc
  | nil =>
    have hds : ds = [] := List.eq_nil_of_length_eq_zero (by simpa using hd.len)
    subst hds
    cases ad with
    | some b => exact key b rfl (fun j u hu => by simp at hu)
    | none =>
      have hform : ∃ A n cap, v = .slice A n cap ∧ n ≤ cap := by
        rcases h2.2 with ⟨rfl, _⟩ | ⟨g, cap, cur, rfl, _, _, hc1, _⟩
        · exact ⟨none, 0, 0, rfl, Nat.le_refl _⟩
        · exact ⟨_, _, cap, rfl, hc1⟩
      obtain ⟨A, n, cap, rfl, hn⟩ := hform
      refine wpList_plain hgd fun K hK => ?_
      unfold Oper.wp execOp
      simp only [ho, resolve, invoke, builtin, Sem.run_bind, Sem.run_pure, Result.andThen_ok, List.map_toArray, List.map_cons, List.map_nil, hs, hx, List.length_nil, run_append_none w t o.type e i0 ht hi A n cap c hn]
      refine hK _ _ (h _ w ⟨by simpa using h0, cs, by simpa using h1, by simpa using h2, h3⟩ ⟨rfl, rfl, rfl, Nat.le_refl _, fun _ _ _ => rfl⟩ (.inl rfl))
end append

end Go.Proofs.Ytailhdcackkegaa.Wd

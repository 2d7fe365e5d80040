/- what carts come to: the plain laws. -/
import Derived.Test.YtailhdcackkegaaL1
namespace Go.Proofs.Ytailhdcackkegaa.Wd
open Go.RowKit
set_option linter.unusedVariables false
set_option linter.unusedSimpArgs false


theorem whereL_unit (sel : Unit → Ev → Bool × Unit) : ∀ l : List Ev, (whereL sel () l).1 = l.filter fun e => (sel () e).1
  | [] => rfl
  | e :: l => by
    simp only [whereL]
    rw [show (sel () e).2 = () from rfl, whereL_unit sel l, List.filter_cons]
    cases (sel () e).1 <;> simp
theorem standL_eq (l : List Ev) : standL l = l.filter fun e => !((clearsF l (fun _ => []) ⟨e.cart, e.sku⟩).any fun v => hasV v e.dot) := whereL_unit _ l
/-- How much of an article, of all these events. -/
def sumQ (cart sku : ByteArray) : List Ev → Int
  | [] => 0
  | e :: l => (if e.cart = cart ∧ e.sku = sku then e.qty else 0) + sumQ cart sku l
theorem sumQ_append (cart sku : ByteArray) (m : List Ev) : ∀ l, sumQ cart sku (l ++ m) = sumQ cart sku l + sumQ cart sku m
  | [] => by simp [sumQ]
  | e :: l => by simp only [List.cons_append, sumQ, sumQ_append cart sku m l]; omega
theorem getA_sums (cart sku : ByteArray) : ∀ (l : List Ev) (L : List (ByteArray × Int)), (getA sku (l.foldl (sumStep cart) L)).getD 0 = (getA sku L).getD 0 + sumQ cart sku l
  | [], L => by simp [sumQ]
  | e :: l, L => by
    rw [List.foldl_cons, getA_sums cart sku l]
    simp only [sumQ, sumStep]
    by_cases hc : e.cart = cart
    · rw [if_pos hc, getA_put]
      by_cases hs : sku = e.sku
      · rw [if_pos hs, if_pos ⟨hc, hs.symm⟩, ← hs]; simp; omega
      · rw [if_neg hs, if_neg (fun h => hs h.2.symm)]; omega
    · rw [if_neg hc, if_neg (fun h => hc h.1)]; omega
theorem getA_mem {α β : Type} [DecidableEq α] {k : α} {x : β} : ∀ {L : List (α × β)}, getA k L = some x → k ∈ L.map (·.1)
  | [], h => by simp [getA] at h
  | p :: L, h => by
    simp only [getA] at h
    split at h
    · rename_i hk; simp [hk]
    · exact List.mem_cons_of_mem _ (getA_mem h)
theorem keysL_mem {β : Type} {L : List (ByteArray × β)} {s : ByteArray} : s ∈ keysL L ↔ s ∈ L.map (·.1) := by
  unfold keysL
  simp only [List.mem_map, List.mem_mergeSort]
  constructor
  · rintro ⟨x, ⟨p, hp, rfl⟩, rfl⟩
    exact ⟨p, hp, by simp⟩
  · rintro ⟨p, hp, rfl⟩
    exact ⟨_, ⟨p, hp, rfl⟩, by simp⟩
theorem qty_keys (L : List (ByteArray × Int)) (sku : ByteArray) : ∀ ks : List ByteArray, (sku ∈ ks ∧ 0 < (getA sku L).getD 0 → qtyL (ks.filterMap (lineK L)) sku = (getA sku L).getD 0) ∧ (¬ (sku ∈ ks ∧ 0 < (getA sku L).getD 0) → qtyL (ks.filterMap (lineK L)) sku = 0)
  | [] => ⟨fun h => by simp at h, fun _ => rfl⟩
  | s :: ks => by
    obtain ⟨ih1, ih2⟩ := qty_keys L sku ks
    by_cases hp : 0 < (getA s L).getD 0
    · rw [List.filterMap_cons_some (show lineK L s = some ⟨s, (getA s L).getD 0⟩ from if_pos hp), qtyL]
      by_cases hs : s = sku
      · subst hs
        rw [if_pos rfl]
        exact ⟨fun _ => rfl, fun h => absurd ⟨List.mem_cons_self, hp⟩ h⟩
      · rw [if_neg hs]
        have : (sku ∈ s :: ks) ↔ sku ∈ ks := by simp [Ne.symm hs]
        rw [this]
        exact ⟨ih1, ih2⟩
    · rw [List.filterMap_cons_none (show lineK L s = none from if_neg hp)]
      by_cases hs : s = sku
      · subst hs
        exact ⟨fun h => absurd h.2 hp, fun _ => ih2 fun h => hp h.2⟩
      · have : (sku ∈ s :: ks) ↔ sku ∈ ks := by simp [Ne.symm hs]
        rw [this]
        exact ⟨ih1, ih2⟩
theorem sumQ_nonneg (cart sku : ByteArray) : ∀ l : List Ev, (∀ e ∈ l, 0 ≤ e.qty) → 0 ≤ sumQ cart sku l
  | [], _ => by simp [sumQ]
  | e :: l, h => by
    have h1 := sumQ_nonneg cart sku l fun x hx => h x (List.mem_cons_of_mem _ hx)
    have h2 := h e List.mem_cons_self
    simp only [sumQ]
    split <;> omega
/-- The lines' quantity of an article is the sum over the events that stand, each dot once. -/
theorem qty_lines {l : List Ev} (hq : ∀ e ∈ l, 0 ≤ e.qty) (cart sku : ByteArray) : qtyL (linesL l cart) sku = sumQ cart sku (onceL (standL l)) := by
  have h0 := sumQ_nonneg cart sku (onceL (standL l)) fun e he => hq e (onceStand_mem he)
  have h1 : (getA sku (sumsL cart (onceL (standL l)))).getD 0 = sumQ cart sku (onceL (standL l)) := by
    rw [sumsL, getA_sums]; simp [getA]
  obtain ⟨k1, k2⟩ := qty_keys (sumsL cart (onceL (standL l))) sku (keysL (sumsL cart (onceL (standL l))))
  rw [h1] at k1 k2
  rw [linesL]
  by_cases hp : 0 < sumQ cart sku (onceL (standL l))
  · refine k1 ⟨?_, hp⟩
    rw [keysL_mem]
    cases hg : getA sku (sumsL cart (onceL (standL l))) with
    | none => rw [hg] at h1; simp at h1; omega
    | some x => exact getA_mem hg
  · rw [k2 fun h => hp h.2]; omega
theorem sumQ_le (cart sku : ByteArray) : ∀ l : List Ev, (∀ e ∈ l, e.qty ≤ 1000) → sumQ cart sku l ≤ 1000 * (l.length : Int)
  | [], _ => by simp [sumQ]
  | e :: l, h => by
    have h1 := sumQ_le cart sku l fun x hx => h x (List.mem_cons_of_mem _ hx)
    have h2 := h e List.mem_cons_self
    simp only [sumQ, List.length_cons]
    split <;> omega
theorem qty_bound {l : List Ev} (hq : ∀ e ∈ l, okEv e) (cart sku : ByteArray) : 0 ≤ qtyL (linesL l cart) sku ∧ qtyL (linesL l cart) sku ≤ 1000 * (l.length : Int) := by
  rw [qty_lines (fun e he => (hq e he).1)]
  have h1 := sumQ_nonneg cart sku (onceL (standL l)) fun e he => (hq e (onceStand_mem he)).1
  have h2 := sumQ_le cart sku (onceL (standL l)) fun e he => (hq e (onceStand_mem he)).2.1
  have h3 := onceStand_len l
  omega
theorem ok_of {l : List Ev} (h : rightL l) (hw : ∀ e ∈ l, e.sku.size ≤ maxLen) : ∀ e ∈ l, okEv e := by
  intro e he
  obtain ⟨i, hi⟩ := List.getElem?_of_mem he
  have := (h i (List.getElem?_eq_some_iff.1 hi).1 e hi).1
  exact ⟨this.1, this.2, hw e he⟩
theorem ok_snoc {l : List Ev} (h : ∀ e ∈ l, okEv e) {e : Ev} (he : okEv e) : ∀ x ∈ l ++ [e], okEv x := by
  intro x hx
  rcases List.mem_append.1 hx with hx | hx
  · exact h x hx
  · simp at hx; subst hx; exact he
/-- Which dots were met. -/
theorem once_state (d : Dot) : ∀ (l : List Ev) (L : List (Dot × Bool)), (getA d (whereL selOnce L l).2).isSome = ((getA d L).isSome || l.any fun e => decide (e.dot = d))
  | [], L => by simp [whereL]
  | e :: l, L => by
    simp only [whereL, List.any_cons]
    rw [once_state d l]
    simp only [selOnce, getA_put]
    by_cases h : d = e.dot
    · simp [h]
    · simp [h, Ne.symm h]
theorem once_vals : ∀ (l : List Ev) (L : List (Dot × Bool)), (∀ d b, getA d L = some b → b = true) → ∀ d b, getA d (whereL selOnce L l).2 = some b → b = true
  | [], L, h => h
  | e :: l, L, h => by
    simp only [whereL]
    refine once_vals l _ fun d b => ?_
    simp only [selOnce, getA_put]
    split
    · intro hb; injection hb with hb; exact hb.symm
    · exact h d b
theorem once_snoc (l : List Ev) (e : Ev) : onceL (l ++ [e]) = if (l.any fun x => decide (x.dot = e.dot)) = true then onceL l else onceL l ++ [e] := by
  have h := whereL_snoc selOnce e l []
  unfold onceL
  rw [h]
  have hs := once_state e.dot l []
  have hv := once_vals l [] (fun d b h => by simp [getA] at h) e.dot
  simp only [getA, Option.isSome_none, Bool.false_or] at hs
  simp only [selOnce]
  cases hg : getA e.dot (whereL selOnce [] l).2 with
  | none => rw [hg] at hs; rw [← hs]; simp
  | some b => rw [hg] at hs; rw [← hs, hv b hg]; simp
theorem clearsF_mem (k : Art) (v : List Int) : ∀ (l : List Ev) (f : Art → List (List Int)), v ∈ clearsF l f k → v ∈ f k ∨ ∃ e ∈ l, e.clears = true ∧ e.deps = v ∧ k = ⟨e.cart, e.sku⟩
  | [], f, h => .inl h
  | e :: l, f, h => by
    rcases clearsF_mem k v l _ h with h | ⟨x, hx, h2⟩
    · cases hc : e.clears
      · rw [hc] at h; exact .inl h
      · rw [hc] at h
        simp only [cond_true, putF] at h
        split at h
        · rename_i hk
          rcases List.mem_append.1 h with h | h
          · rw [← hk] at h; exact .inl h
          · simp at h; exact .inr ⟨e, List.mem_cons_self, hc, h.symm, hk⟩
        · exact .inl h
    · exact .inr ⟨x, List.mem_cons_of_mem _ hx, h2⟩
/-- One event more, that clears nothing and that none had seen, stands behind the others. -/
theorem stand_snoc {l : List Ev} {e : Ev} (hc : e.clears = false) (hn : ∀ x ∈ l, hasV x.deps e.dot = false) : standL (l ++ [e]) = standL l ++ [e] := by
  have hcl : clearsF (l ++ [e]) (fun _ => []) = clearsF l (fun _ => []) := by rw [clearsF_snoc, hc]; rfl
  rw [standL_eq, standL_eq, hcl, List.filter_append]
  congr 1
  rw [List.filter_cons, if_pos, List.filter_nil]
  simp only [Bool.not_eq_true', List.any_eq_false]
  intro v hv
  rcases clearsF_mem _ _ l _ hv with h | ⟨x, hx, _, rfl, _⟩
  · simp at h
  · rw [hn x hx]; simp
theorem stand_mem {l : List Ev} {e : Ev} (h : e ∈ standL l) : e ∈ l := whereL_mem _ _ _ _ h
theorem cart_apart {l : List Ev} {name sku : ByteArray} {qty : Int} (hq : ∀ e ∈ l, 0 ≤ e.qty) (h0 : 0 ≤ qty) (hd : ∀ e ∈ l, e.dot.o ≠ 6 ∧ ¬ 0 < ofL e.deps 6) :
    qtyL (linesL (l ++ [⟨⟨6, 1⟩, [], name, 0, sku, qty, false⟩]) name) sku = qtyL (linesL l name) sku + qty := by
  rw [qty_lines hq, qty_lines (by intro e he; rcases List.mem_append.1 he with h | h; exact hq e h; simp at h; subst h; exact h0), stand_snoc rfl, once_snoc, if_neg, sumQ_append]
  · simp [sumQ]
  · simp only [List.any_eq_true, decide_eq_true_eq, not_exists, not_and]
    intro x hx he
    exact (hd x (stand_mem hx)).1 (by rw [he])
  · intro x hx
    have := (hd x hx).2
    simp only [hasV, Bool.and_eq_false_iff, decide_eq_false_iff_not]
    exact .inr (by omega)

end Go.Proofs.Ytailhdcackkegaa.Wd

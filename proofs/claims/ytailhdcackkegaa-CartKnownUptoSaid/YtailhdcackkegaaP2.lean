/- what carts come to: pieces, settings, additions; the plain laws. -/
import Derived.Test.YtailhdcackkegaaP1
import Derived.Test.YtailhdcackkegaaVp
namespace Go.Proofs.Ytailhdcackkegaa.Wd
open Go.RowKit
set_option linter.unusedVariables false
set_option linter.unusedSimpArgs false


theorem known_both (name sku : ByteArray) (x y : Dot) (hxy : x ≠ y) (a b : Int) (ha : 1 ≤ a) (hb : 1 ≤ b) : qtyL (linesL [⟨x, [], name, 0, sku, a, true⟩, ⟨y, [], name, 0, sku, b, true⟩] name) sku = a + b := by
  rw [qty_lines (by intro e he; simp at he; rcases he with rfl | rfl <;> (dsimp only; omega))]
  have h0 : ∀ d, hasV [] d = false := fun d => by simp [hasV, ofL]; try omega
  simp [standL_eq, clearsF, putF, h0, onceL, whereL, selOnce, getA, putA, Ne.symm hxy, sumQ]
theorem known_one (name sku : ByteArray) (a b : Int) (ha : 1 ≤ a) (hb : 1 ≤ b) : qtyL (linesL [⟨⟨0, 1⟩, [], name, 0, sku, a, true⟩, ⟨⟨1, 1⟩, [1], name, 0, sku, b, true⟩] name) sku = b := by
  rw [qty_lines (by intro e he; simp at he; rcases he with rfl | rfl <;> (dsimp only; omega))]
  simp [standL_eq, clearsF, putF, hasV, ofL, onceL, whereL, selOnce, getA, putA, sumQ]
theorem known_two (name sku : ByteArray) (a b : Int) (ha : 1 ≤ a) (hb : 1 ≤ b) : qtyL (linesL [⟨⟨1, 1⟩, [1], name, 0, sku, b, true⟩, ⟨⟨0, 1⟩, [], name, 0, sku, a, true⟩] name) sku = b := by
  rw [qty_lines (by intro e he; simp at he; rcases he with rfl | rfl <;> (dsimp only; omega))]
  simp [standL_eq, clearsF, putF, hasV, ofL, onceL, whereL, selOnce, getA, putA, sumQ]
/-! ### pieces -/
theorem clearsF_none : ∀ (l : List Ev) (f : Art → List (List Int)), (∀ e ∈ l, e.clears = false) → clearsF l f = f
  | [], f, _ => rfl
  | e :: l, f, h => by
    rw [clearsF, h e List.mem_cons_self]
    exact clearsF_none l f fun x hx => h x (List.mem_cons_of_mem _ hx)
theorem stand_none {l : List Ev} (h : ∀ e ∈ l, e.clears = false) : standL l = l := by
  rw [standL_eq, clearsF_none l _ h]
  exact List.filter_eq_self.2 fun e he => by simp
theorem once_filter (q : Dot → Bool) : ∀ (l : List Ev) (L M : List (Dot × Bool)), (∀ d, q d = true → (getA d L).getD false = (getA d M).getD false) → (whereL selOnce M (l.filter fun e => q e.dot)).1 = ((whereL selOnce L l).1).filter fun e => q e.dot
  | [], L, M, h => rfl
  | e :: l, L, M, h => by
    cases hq : q e.dot
    · rw [List.filter_cons_of_neg (by simp [hq])]
      rw [once_filter q l (putA e.dot true L) M fun d hd => by rw [getA_put, if_neg (by intro he; rw [he, hq] at hd; cases hd)]; exact h d hd]
      simp only [whereL, selOnce]
      cases (getA e.dot L).getD false <;> simp [hq]
    · rw [List.filter_cons_of_pos (by simp [hq])]
      simp only [whereL, selOnce]
      rw [once_filter q l (putA e.dot true L) (putA e.dot true M) fun d hd => by rw [getA_put, getA_put]; split; rfl; exact h d hd, h e.dot hq]
      cases (getA e.dot M).getD false <;> simp [hq]
theorem onceL_filter (q : Dot → Bool) (l : List Ev) : onceL (l.filter fun e => q e.dot) = (onceL l).filter fun e => q e.dot := once_filter q l [] [] fun d _ => rfl
theorem sumQ_parts (cart sku : ByteArray) (p : Ev → Bool) : ∀ l : List Ev, sumQ cart sku l = sumQ cart sku (l.filter p) + sumQ cart sku (l.filter fun e => !p e)
  | [] => by simp [sumQ]
  | e :: l => by
    have ih := sumQ_parts cart sku p l
    cases hp : p e
    · rw [List.filter_cons_of_neg (by simp [hp]), List.filter_cons_of_pos (by simp [hp])]; simp only [sumQ]; omega
    · rw [List.filter_cons_of_pos (by simp [hp]), List.filter_cons_of_neg (by simp [hp])]; simp only [sumQ]; omega
theorem qty_parts {l : List Ev} (hq : ∀ e ∈ l, 0 ≤ e.qty) (hc : ∀ e ∈ l, e.clears = false) (q : Dot → Bool) (cart sku : ByteArray) :
    qtyL (linesL l cart) sku = qtyL (linesL (l.filter fun e => q e.dot) cart) sku + qtyL (linesL (l.filter fun e => !q e.dot) cart) sku := by
  have hm : ∀ (p : Ev → Bool) (e : Ev), e ∈ l.filter p → e ∈ l := fun p e he => (List.mem_filter.1 he).1
  rw [qty_lines hq, qty_lines fun e he => hq e (hm _ e he), qty_lines fun e he => hq e (hm _ e he), stand_none hc, stand_none fun e he => hc e (hm _ e he), stand_none fun e he => hc e (hm _ e he), onceL_filter q, onceL_filter fun d => !q d]
  exact sumQ_parts cart sku (fun e => q e.dot) _
/-! ### totals -/
def sumC (cart : ByteArray) : List Ev → Int
  | [] => 0
  | e :: l => (if e.cart = cart then e.qty else 0) + sumC cart l
def sumI : List Int → Int
  | [] => 0
  | x :: l => x + sumI l
theorem sumI_perm {l m : List Int} (h : l.Perm m) : sumI l = sumI m := by
  induction h with
  | nil => rfl
  | cons x _ ih => simp only [sumI, ih]
  | swap x y l => simp only [sumI]; omega
  | trans _ _ h1 h2 => rw [h1, h2]
theorem totL_foldl : ∀ (l : List Ln) (s : Int), l.foldl (fun s x => s + x.qty) s = s + sumI (l.map (·.qty))
  | [], s => by simp [sumI]
  | x :: l, s => by rw [List.foldl_cons, totL_foldl l, List.map_cons, sumI]; omega
theorem totL_eq (l : List Ln) : totL l = sumI (l.map (·.qty)) := by rw [totL, totL_foldl]; omega
theorem tot_keys (L : List (ByteArray × Int)) (h : ∀ s, 0 ≤ (getA s L).getD 0) : ∀ ks : List ByteArray, sumI ((ks.filterMap (lineK L)).map (·.qty)) = sumI (ks.map fun s => (getA s L).getD 0)
  | [] => rfl
  | s :: ks => by
    have ih := tot_keys L h ks
    have := h s
    by_cases hp : 0 < (getA s L).getD 0
    · rw [List.filterMap_cons_some (show lineK L s = some ⟨s, (getA s L).getD 0⟩ from if_pos hp), List.map_cons, List.map_cons, sumI, sumI, ih]
    · rw [List.filterMap_cons_none (show lineK L s = none from if_neg hp), List.map_cons, sumI, ih]; omega
theorem keysL_perm {β : Type} (L : List (ByteArray × β)) : (keysL L).Perm (L.map (·.1)) := by
  have h := (List.mergeSort_perm (L.map fun p => p.1.data.toList) fun x y => decide (x ≤ y)).map fun l => (⟨l.toArray⟩ : ByteArray)
  rw [List.map_map] at h
  exact h
theorem putA_keys {α β : Type} [DecidableEq α] (k : α) (x : β) : ∀ L : List (α × β), (L.map (·.1)).Nodup → ((putA k x L).map (·.1)).Nodup
  | [], _ => by simp [putA]
  | p :: L, h => by
    rw [List.map_cons, List.nodup_cons] at h
    simp only [putA]
    split
    · rw [List.map_cons, List.nodup_cons]; exact h
    · rename_i hk
      rw [List.map_cons, List.nodup_cons]
      refine ⟨fun hm => ?_, putA_keys k x L h.2⟩
      obtain ⟨q, hq, he⟩ := List.mem_map.1 hm
      rcases putA_mem k x L q hq with h1 | ⟨r, h1, h2⟩
      · exact hk (h1.symm.trans he)
      · exact h.1 (List.mem_map.2 ⟨r, h1, h2.trans he⟩)
theorem sums_keys (cart : ByteArray) : ∀ (l : List Ev) (L : List (ByteArray × Int)), (L.map (·.1)).Nodup → ((l.foldl (sumStep cart) L).map (·.1)).Nodup
  | [], L, h => h
  | e :: l, L, h => by
    rw [List.foldl_cons]
    refine sums_keys cart l _ ?_
    unfold sumStep
    split
    · exact putA_keys _ _ _ h
    · exact h
theorem sumI_put (k : ByteArray) (q : Int) : ∀ L : List (ByteArray × Int), sumI ((putA k ((getA k L).getD 0 + q) L).map (·.2)) = sumI (L.map (·.2)) + q
  | [] => by simp [putA, getA, sumI]
  | p :: L => by
    simp only [putA, getA]
    by_cases hk : k = p.1
    · rw [if_pos hk, if_pos hk]; simp only [List.map_cons, sumI, Option.getD_some]; omega
    · rw [if_neg hk, if_neg hk]; simp only [List.map_cons, sumI]; rw [sumI_put k q L]; omega
theorem sums_total (cart : ByteArray) : ∀ (l : List Ev) (L : List (ByteArray × Int)), sumI ((l.foldl (sumStep cart) L).map (·.2)) = sumI (L.map (·.2)) + sumC cart l
  | [], L => by simp [sumC]
  | e :: l, L => by
    rw [List.foldl_cons, sums_total cart l]
    unfold sumStep
    simp only [sumC]
    by_cases hc : e.cart = cart
    · rw [if_pos hc, if_pos hc, sumI_put]; omega
    · rw [if_neg hc, if_neg hc]; omega
theorem getA_nodup {β : Type} : ∀ {L : List (ByteArray × β)}, (L.map (·.1)).Nodup → ∀ p ∈ L, getA p.1 L = some p.2
  | [], _, p, hp => by cases hp
  | q :: L, h, p, hp => by
    rw [List.map_cons, List.nodup_cons] at h
    simp only [getA]
    rcases List.mem_cons.1 hp with rfl | hp
    · rw [if_pos rfl]
    · rw [if_neg fun he => h.1 (List.mem_map.2 ⟨p, hp, he⟩)]; exact getA_nodup h.2 p hp
/-- All of a cart's lines together are the quantities of its events that stand, each dot once. -/
theorem tot_lines {l : List Ev} (hq : ∀ e ∈ l, 0 ≤ e.qty) (cart : ByteArray) : totL (linesL l cart) = sumC cart (onceL (standL l)) := by
  have hn : ∀ s, 0 ≤ (getA s (sumsL cart (onceL (standL l)))).getD 0 := fun s => by
    rw [sumsL, getA_sums]
    have := sumQ_nonneg cart s (onceL (standL l)) fun e he => hq e (onceStand_mem he)
    simp [getA]; omega
  rw [totL_eq, linesL, tot_keys _ hn]
  rw [sumI_perm ((keysL_perm _).map _), List.map_map]
  have hk : ((sumsL cart (onceL (standL l))).map (·.1)).Nodup := sums_keys cart (onceL (standL l)) [] (by simp)
  rw [List.map_congr_left (g := (·.2)) fun p hp => by show (getA p.1 _).getD 0 = p.2; rw [getA_nodup hk p hp]; rfl]
  rw [sumsL, sums_total]; simp [sumI]
theorem sumC_parts (cart : ByteArray) (p : Ev → Bool) : ∀ l : List Ev, sumC cart l = sumC cart (l.filter p) + sumC cart (l.filter fun e => !p e)
  | [] => by simp [sumC]
  | e :: l => by
    have ih := sumC_parts cart p l
    cases hp : p e
    · rw [List.filter_cons_of_neg (by simp [hp]), List.filter_cons_of_pos (by simp [hp])]; simp only [sumC]; omega
    · rw [List.filter_cons_of_pos (by simp [hp]), List.filter_cons_of_neg (by simp [hp])]; simp only [sumC]; omega
theorem tot_parts {l : List Ev} (hq : ∀ e ∈ l, 0 ≤ e.qty) (hc : ∀ e ∈ l, e.clears = false) (q : Dot → Bool) (cart : ByteArray) :
    totL (linesL l cart) = totL (linesL (l.filter fun e => q e.dot) cart) + totL (linesL (l.filter fun e => !q e.dot) cart) := by
  have hm : ∀ (p : Ev → Bool) (e : Ev), e ∈ l.filter p → e ∈ l := fun p e he => (List.mem_filter.1 he).1
  rw [tot_lines hq, tot_lines fun e he => hq e (hm _ e he), tot_lines fun e he => hq e (hm _ e he), stand_none hc, stand_none fun e he => hc e (hm _ e he), stand_none fun e he => hc e (hm _ e he), onceL_filter q, onceL_filter fun d => !q d]
  exact sumC_parts cart (fun e => q e.dot) _
theorem sumC_le (cart : ByteArray) : ∀ l : List Ev, (∀ e ∈ l, 0 ≤ e.qty ∧ e.qty ≤ 1000) → 0 ≤ sumC cart l ∧ sumC cart l ≤ 1000 * (l.length : Int)
  | [], _ => by simp [sumC]
  | e :: l, h => by
    have h1 := sumC_le cart l fun x hx => h x (List.mem_cons_of_mem _ hx)
    have h2 := h e List.mem_cons_self
    simp only [sumC, List.length_cons]
    split <;> omega
theorem tot_bound {l : List Ev} (hq : ∀ e ∈ l, okEv e) (cart : ByteArray) : 0 ≤ totL (linesL l cart) ∧ totL (linesL l cart) ≤ 1000 * (l.length : Int) := by
  rw [tot_lines fun e he => (hq e he).1]
  have h2 := sumC_le cart (onceL (standL l)) fun e he => ⟨(hq e (onceStand_mem he)).1, (hq e (onceStand_mem he)).2.1⟩
  have h3 := onceStand_len l
  omega
theorem lines_mem {l : List Ev} (hq : ∀ e ∈ l, okEv e) (cart : ByteArray) : ∀ x ∈ linesL l cart, 0 ≤ x.qty ∧ x.qty ≤ 1000 * (l.length : Int) := by
  intro x hx
  obtain ⟨s, _, hs⟩ := List.mem_filterMap.1 hx
  unfold lineK at hs
  split at hs
  · injection hs with hs
    subst hs
    show 0 ≤ (getA s _).getD 0 ∧ (getA s _).getD 0 ≤ _
    rw [sumsL, getA_sums]
    have h1 := sumQ_nonneg cart s (onceL (standL l)) fun e he => (hq e (onceStand_mem he)).1
    have h2 := sumQ_le cart s (onceL (standL l)) fun e he => (hq e (onceStand_mem he)).2.1
    have h3 := onceStand_len l
    simp [getA]; omega
  · cases hs
theorem sums_len (cart : ByteArray) : ∀ (l : List Ev) (L : List (ByteArray × Int)), (l.foldl (sumStep cart) L).length ≤ L.length + l.length
  | [], L => by simp
  | e :: l, L => by
    rw [List.foldl_cons]
    have h1 := sums_len cart l (sumStep cart L e)
    have h2 : (sumStep cart L e).length ≤ L.length + 1 := by unfold sumStep; split; exact putA_len _ _ _; omega
    rw [List.length_cons]; omega
theorem lines_len (l : List Ev) (cart : ByteArray) : (linesL l cart).length ≤ l.length := by
  have h1 := List.length_filterMap_le (lineK (sumsL cart (onceL (standL l)))) (keysL (sumsL cart (onceL (standL l))))
  have h2 := (keysL_perm (sumsL cart (onceL (standL l)))).length_eq
  have h3 := sums_len cart (onceL (standL l)) []
  have h4 := onceStand_len l
  rw [List.length_map] at h2
  unfold linesL
  unfold sumsL at *
  simp only [List.length_nil] at h3
  omega
/-! ### additions and settings that have seen all -/
theorem cart_adds {l : List Ev} {name sku : ByteArray} {qty : Int} {seen : List Int} (hq : ∀ e ∈ l, 0 ≤ e.qty) (h0 : 0 ≤ qty) (hd : ∀ e ∈ l, e.dot.o ≠ 6 ∧ ¬ 0 < ofL e.deps 6) :
    qtyL (linesL (l ++ [⟨⟨6, 1⟩, seen, name, 0, sku, qty, false⟩]) name) sku = qtyL (linesL l name) sku + qty := by
  rw [qty_lines hq, qty_lines (by intro e he; rcases List.mem_append.1 he with h | h; exact hq e h; simp at h; subst h; exact h0), stand_snoc rfl, once_snoc, if_neg, sumQ_append]
  · simp [sumQ]
  · simp only [List.any_eq_true, decide_eq_true_eq, not_exists, not_and]
    intro x hx he
    exact (hd x (stand_mem hx)).1 (by rw [he])
  · intro x hx
    have := (hd x hx).2
    simp only [hasV, Bool.and_eq_false_iff, decide_eq_false_iff_not]
    exact .inr (by omega)
theorem sumQ_zero (cart sku : ByteArray) : ∀ l : List Ev, (∀ e ∈ l, ¬ (e.cart = cart ∧ e.sku = sku)) → sumQ cart sku l = 0
  | [], _ => rfl
  | e :: l, h => by rw [sumQ, if_neg (h e List.mem_cons_self), sumQ_zero cart sku l fun x hx => h x (List.mem_cons_of_mem _ hx)]; rfl
theorem cart_sets {l : List Ev} {name sku : ByteArray} {qty : Int} {seen : List Int} (hq : ∀ e ∈ l, 0 ≤ e.qty) (h0 : 0 ≤ qty) (hd : ∀ e ∈ l, e.dot.o ≠ 6 ∧ ¬ 0 < ofL e.deps 6) (hs : ∀ e ∈ l, hasV seen e.dot = true) (h6 : ofL seen 6 = 0) :
    qtyL (linesL (l ++ [⟨⟨6, 1⟩, seen, name, 0, sku, qty, true⟩]) name) sku = qty := by
  rw [qty_lines (by intro e he; rcases List.mem_append.1 he with h | h; exact hq e h; simp at h; subst h; exact h0)]
  have hcl : ∀ f, clearsF (l ++ [⟨⟨6, 1⟩, seen, name, 0, sku, qty, true⟩]) f = putF (clearsF l f) ⟨name, sku⟩ (clearsF l f ⟨name, sku⟩ ++ [seen]) := fun f => by rw [clearsF_snoc]; rfl
  have hst : standL (l ++ [⟨⟨6, 1⟩, seen, name, 0, sku, qty, true⟩]) = (l.filter fun x => !((clearsF (l ++ [⟨⟨6, 1⟩, seen, name, 0, sku, qty, true⟩]) (fun _ => []) ⟨x.cart, x.sku⟩).any fun v => hasV v x.dot)) ++ [⟨⟨6, 1⟩, seen, name, 0, sku, qty, true⟩] := by
    rw [standL_eq, List.filter_append]
    congr 1
    rw [List.filter_cons, if_pos, List.filter_nil]
    simp only [Bool.not_eq_true', List.any_eq_false]
    intro v hv
    rcases clearsF_mem _ _ _ _ hv with h | ⟨x, hx, _, rfl, _⟩
    · simp at h
    · rcases List.mem_append.1 hx with hx | hx
      · have := (hd x hx).2
        simp only [hasV, Bool.and_eq_true, decide_eq_true_eq]; omega
      · simp at hx; subst hx
        simp only [hasV, Bool.and_eq_true, decide_eq_true_eq]; omega
  rw [hst, once_snoc, if_neg, sumQ_append, sumQ_zero]
  · simp [sumQ]
  · rintro e he ⟨h1, h2⟩
    obtain ⟨hel, hp⟩ := List.mem_filter.1 (whereL_mem _ _ _ _ he)
    simp only [hcl, putF, h1, h2, if_true, Bool.not_eq_true', List.any_eq_false] at hp
    have := hp seen (by simp)
    rw [hs e hel] at this; simp at this
  · simp only [List.any_eq_true, decide_eq_true_eq, not_exists, not_and]
    intro x hx he
    exact (hd x (List.mem_filter.1 hx).1).1 (by rw [he])
/-! ### vectors that have seen -/
/-- What a vector becomes that sees these dots. -/
def seenStep (s : List Int) (e : Ev) : List Int := if ofL s e.dot.o < e.dot.s then withL s e.dot.o e.dot.s else s
def seenL (l : List Ev) : List Int := l.foldl seenStep []
theorem seenL_snoc {l : List Ev} {i : Nat} {e : Ev} (h : l[i]? = some e) : seenL (l.take (i + 1)) = seenStep (seenL (l.take i)) e := by
  rw [take_snoc h, seenL, List.foldl_append]; rfl
theorem seen_grows (e : Ev) (s : List Int) (h : 0 ≤ e.dot.o) (p : Int) : ofL s p ≤ ofL (seenStep s e) p := by
  unfold seenStep
  split
  · rw [ofL_with h]; split; subst_vars; omega; omega
  · omega
theorem seen_fold : ∀ (l : List Ev) (s : List Int), (∀ e ∈ l, 0 ≤ e.dot.o) → ∀ p, ofL s p ≤ ofL (l.foldl seenStep s) p
  | [], s, _, p => Int.le_refl _
  | e :: l, s, h, p => Int.le_trans (seen_grows e s (h e List.mem_cons_self) p) (seen_fold l _ (fun x hx => h x (List.mem_cons_of_mem _ hx)) p)
theorem seen_has : ∀ (l : List Ev) (s : List Int), (∀ e ∈ l, 0 ≤ e.dot.o) → ∀ e ∈ l, e.dot.s ≤ ofL (l.foldl seenStep s) e.dot.o
  | [], s, _, e, he => by cases he
  | a :: l, s, h, e, he => by
    rcases List.mem_cons.1 he with rfl | he
    · refine Int.le_trans ?_ (seen_fold l _ (fun x hx => h x (List.mem_cons_of_mem _ hx)) _)
      unfold seenStep
      split
      · rw [ofL_with (h e List.mem_cons_self), if_pos rfl]; omega
      · omega
    · exact seen_has l _ (fun x hx => h x (List.mem_cons_of_mem _ hx)) e he
theorem seen_out (p : Int) : ∀ (l : List Ev) (s : List Int), (∀ e ∈ l, 0 ≤ e.dot.o ∧ e.dot.o ≠ p) → ofL (l.foldl seenStep s) p = ofL s p
  | [], s, _ => rfl
  | e :: l, s, h => by
    rw [List.foldl_cons, seen_out p l _ fun x hx => h x (List.mem_cons_of_mem _ hx)]
    have := h e List.mem_cons_self
    unfold seenStep
    split
    · rw [ofL_with this.1, if_neg (by omega)]
    · rfl

end Go.Proofs.Ytailhdcackkegaa.Wd

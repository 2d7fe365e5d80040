/- slices.Sort, slices.Compact at whole numbers, of a slice of the call's own. -/
import Derived.Test.YtailhdcackkegaaEs
import Derived.Sort.OwnSortedInts
import Derived.Lib.OwnBridge
import Derived.Lib.RowBridge
import Derived.Lib.SlicesCompact
namespace Go.Proofs.Ytailhdcackkegaa.Wd
open Go.RowKit Go.Sort
set_option linter.unusedVariables false
set_option linter.unusedSimpArgs false

theorem flat_ints {ok : Nat → Prop} {w : World} {cs : List Value} {xs : List Int} (h : Flat kInt ok w cs xs) : cs = xs.map (Value.int .i64) := by
  induction h with
  | nil => rfl
  | @snoc cs xs c x _ hx ih => rw [ih, List.map_append, show c = _ from hx]; rfl
theorem ints_flat (ok : Nat → Prop) (w : World) (xs : List Int) : Flat kInt ok w (xs.map (Value.int .i64)) xs := by
  have key : ∀ (n : Nat), Flat kInt ok w ((xs.take n).map (Value.int .i64)) (xs.take n) := by
    intro n
    induction n with
    | zero => exact .nil
    | succ n ih =>
      rcases Nat.lt_or_ge n xs.length with h | h
      · rw [List.take_succ_eq_append_getElem h, List.map_append]
        exact .snoc ih rfl
      · rw [List.take_of_length_le (by omega : xs.length ≤ n + 1)]
        rw [List.take_of_length_le h] at ih
        exact ih
  have := key xs.length
  rwa [List.take_length] at this
def sortL (xs : List Int) : List Int := xs.mergeSort fun x y => decide (x ≤ y)
theorem sort_own {P : Program} {f : Nat} (hS : ∀ (blk off cap : Nat) (zs : List Int) (w : World), Holds (Value.int .i64) w blk off zs.toArray → blk < w.heap.size → zs.length < 4611686018427387904 → Calls P f #[.slice (some ⟨blk, off, none⟩) zs.length cap] w fun e w' => e = .returned (.tuple #[]) ∧ ∃ n os, w' = grow (putRow (Value.int .i64) (Sort.ahead w n) blk off (zs.mergeSort fun x y => decide (x ≤ y)).toArray) os)
    (hN : ∀ (p : Option Addr) (cap : Nat) (w : World), Calls P f #[.slice p 0 cap] w fun e w' => e = .returned (.tuple #[]) ∧ w' = w)
    {e a n h : Nat} {w : World} {v : Value} {xs : List Int} (o : OwnX kInt e a n h w v xs) : CallsV P f #[v] w (fun r w' => r = .tuple #[] ∧ OwnX kInt e a n w'.heap.size w' v (sortL xs) ∧ Chg n h w w') := by
  obtain ⟨h0, h00, h1, h2, ok, h3, hl, cs, hF, hown, hnok⟩ := o
  have hcs := flat_ints hF
  subst hcs
  rcases hown.2 with ⟨rfl, hn⟩ | ⟨g, cap, cur, rfl, hbase, hb, hc1, hc2, hc3, hc4⟩
  · have hxs : xs = [] := List.eq_nil_of_length_eq_zero hn
    subst hxs
    refine Calls.mono (hN none 0 w) ?_
    rintro _ _ ⟨rfl, rfl⟩
    refine ⟨_, rfl, rfl, ⟨h0, by omega, Nat.le_refl _, fun g hg => by simp [Value.ownBlock] at hg, ok, fun b hb => by have := h3 b hb; omega, by simp [sortL, lim], [], by simpa [sortL] using Flat.nil, by simpa [sortL] using hown, hnok⟩, Chg.refl _ _ _⟩
  · have hg : g < w.heap.size := (Array.getElem?_eq_some_iff.1 hb).1
    have hlen : (sortL xs).length = xs.length := by simp [sortL]
    have hlim := lim_le hl
    have hgh := h2 g rfl
    refine Calls.mono (hS g 0 cap xs w (holds_of_blockI hb (by have hc5 : cur.toList.take (xs.length * 1) = xs.map (Value.int .i64) := hc4; simpa using hc5)) hg (by omega)) ?_
    rintro _ w' ⟨rfl, n', os, rfl⟩
    have hgr := grownBy_sortedI (w := w) (g := g) (n := n') (os := os) (sortL xs).toArray
    have hgr' : w.grownBy (grow (putRow (Value.int .i64) (Sort.ahead w n') g 0 (xs.mergeSort fun x y => decide (x ≤ y)).toArray) os) (some g) := hgr
    refine ⟨_, rfl, rfl, ⟨h0, by have := hgr'.size; omega, Nat.le_refl _, fun b hb' => by have := h2 b hb'; have := hgr'.size; omega, ok, fun b hb' => by have := h3 b hb'; have := hgr'.size; omega, by rw [hlen]; exact hl, (sortL xs).map (Value.int .i64), ints_flat _ _ _, ?_, hnok⟩, .of_grown hgr' (fun b e => by cases e; exact hgh)⟩
    have := ownsRow_sortedI (n := n') (os := os) hlen hbase hb hc1 hc2 hc3
    rw [hlen]
    exact this
theorem compact_own {P : Program} {f : Nat} (hC : ∀ (blk off cap : Nat) (zs : List Int) (w : World), Holds (Value.int .i64) w blk off zs.toArray → zs.length ≤ 9223372036854775807 → zs.length ≤ cap → Calls P f #[.slice (some ⟨blk, off, none⟩) zs.length cap] w fun e w' => e = .returned (.slice (some ⟨blk, off, none⟩) (Lib.compact zs).length cap) ∧ ∃ q, w' = putRow (Value.int .i64) (Sort.ahead w q) blk off (Lib.compact zs ++ List.replicate (zs.length - (Lib.compact zs).length) 0).toArray)
    (hN : ∀ (a : Option Addr) (cap : Nat) (w : World), Calls P f #[.slice a 0 cap] w fun e w' => e = .returned (.slice a 0 cap) ∧ w' = w)
    {e a n h : Nat} {w : World} {v : Value} {xs : List Int} (o : OwnX kInt e a n h w v xs) : CallsV P f #[v] w (fun r w' => OwnX kInt e a n w'.heap.size w' r (Lib.compact xs) ∧ Chg n h w w') := by
  obtain ⟨h0, h00, h1, h2, ok, h3, hl, cs, hF, hown, hnok⟩ := o
  have hcs := flat_ints hF
  subst hcs
  rcases hown.2 with ⟨rfl, hn⟩ | ⟨g, cap, cur, rfl, hbase, hb, hc1, hc2, hc3, hc4⟩
  · have hxs : xs = [] := List.eq_nil_of_length_eq_zero hn
    subst hxs
    refine Calls.mono (hN none 0 w) ?_
    rintro _ _ ⟨rfl, rfl⟩
    refine ⟨_, rfl, ⟨h0, by omega, Nat.le_refl _, fun g hg => by simp [Value.ownBlock] at hg, ok, fun b hb => by have := h3 b hb; omega, hl, [], .nil, ?_, hnok⟩, Chg.refl _ _ _⟩
    exact hown
  · have hg : g < w.heap.size := (Array.getElem?_eq_some_iff.1 hb).1
    have hle := Lib.compact_length_le xs
    have hlim := lim_le hl
    have hgh := h2 g rfl
    refine Calls.mono (hC g 0 cap xs w (holds_of_blockI hb (by have hc5 : cur.toList.take (xs.length * 1) = xs.map (Value.int .i64) := hc4; simpa using hc5)) (by omega) hc1) ?_
    rintro _ w' ⟨rfl, q, rfl⟩
    have hgr := grownBy_sortedI (w := w) (g := g) (n := q) (os := #[]) (Lib.compact xs ++ List.replicate (xs.length - (Lib.compact xs).length) 0).toArray
    rw [grow_empty] at hgr
    refine ⟨_, rfl, ⟨h0, by have := hgr.size; omega, Nat.le_refl _, fun b hb' => by
        have hb2 : g = b := by simpa [Value.ownBlock] using hb'
        subst hb2; have := hgr.size; omega, ok, fun b hb' => by have := h3 b hb'; have := hgr.size; omega, by unfold lim at *; omega, (Lib.compact xs).map (Value.int .i64), ints_flat _ _ _, ?_, fun b hb' => hnok b (by simpa [Value.ownBlock] using hb')⟩, .of_grown hgr (fun b e => by cases e; exact hgh)⟩
    have := Lib.ownsRow_putRow (q := q) (k := (Lib.compact xs).length) (ys := Lib.compact xs ++ List.replicate (xs.length - (Lib.compact xs).length) 0) hown (by simp; omega) hle
    rw [List.take_append_of_le_length (Nat.le_refl _), List.take_length] at this
    exact this

/-! ### what sorting and compacting come to -/
/-- Rising, each but once. -/
def Rise (l : List Int) : Prop := l.Pairwise (· < ·)
theorem rise_eq : ∀ {l m : List Int}, Rise l → Rise m → (∀ x, x ∈ l ↔ x ∈ m) → l = m
  | [], [], _, _, _ => rfl
  | [], b :: m, _, _, h => by have := (h b).2 (by simp); simp at this
  | a :: l, [], _, _, h => by have := (h a).1 (by simp); simp at this
  | a :: l, b :: m, hl, hm, h => by
    have hl' := List.pairwise_cons.1 hl
    have hm' := List.pairwise_cons.1 hm
    have hab : a = b := by
      have h1 := (h a).1 (by simp)
      have h2 := (h b).2 (by simp)
      rcases List.mem_cons.1 h1 with e | h1
      · exact e
      · rcases List.mem_cons.1 h2 with e | h2
        · exact e.symm
        · have := hl'.1 b h2; have := hm'.1 a h1; omega
    subst hab
    congr 1
    refine rise_eq hl'.2 hm'.2 fun x => ⟨fun hx => ?_, fun hx => ?_⟩
    · rcases List.mem_cons.1 ((h x).1 (List.mem_cons_of_mem _ hx)) with e | h1
      · have := hl'.1 x hx; omega
      · exact h1
    · rcases List.mem_cons.1 ((h x).2 (List.mem_cons_of_mem _ hx)) with e | h1
      · have := hm'.1 x hx; omega
      · exact h1
theorem compact_rise (zs : List Int) (hs : zs.Pairwise (· ≤ ·)) : Rise (Lib.compact zs) ∧ ∀ x, x ∈ Lib.compact zs ↔ x ∈ zs := by
  have key : ∀ m, m ≤ zs.length → Rise (Lib.compactUpTo zs.toArray m) ∧ (∀ x, x ∈ Lib.compactUpTo zs.toArray m ↔ x ∈ zs.take m) := by
    intro m
    induction m with
    | zero => intro _; simp [Lib.compactUpTo, Rise]
    | succ m ih =>
      intro hm
      obtain ⟨h1, h2⟩ := ih (by omega)
      have hget : ∀ j (hj : j < zs.length), zs.toArray[j]! = zs[j] := fun j hj => by simp [getElem!_pos, hj]
      rw [Lib.compactUpTo_succ, List.take_succ_eq_append_getElem (by omega), hget m (by omega)]
      have hle : ∀ x, x ∈ zs.take m → m ≠ 0 → x ≤ zs[m - 1]'(by omega) := by
        intro x hx h0
        obtain ⟨j, hj, rfl⟩ := List.getElem_of_mem hx
        simp only [List.length_take] at hj
        rw [List.getElem_take]
        rcases Nat.lt_or_ge j (m - 1) with h | h
        · exact List.pairwise_iff_getElem.1 hs j (m - 1) (by omega) (by omega) h
        · have : j = m - 1 := by omega
          subst this
          exact Int.le_refl _
      by_cases hk : Lib.keeps zs.toArray m = true
      · rw [if_pos hk]
        refine ⟨?_, fun x => by rw [List.mem_append, List.mem_append, h2]⟩
        refine List.pairwise_append.2 ⟨h1, by simp, fun x hx y hy => ?_⟩
        have hy' : y = zs[m] := by simpa using hy
        subst hy'
        have hx' := (h2 x).1 hx
        have h0 : m ≠ 0 := by rintro rfl; simp at hx'
        have h3 := hle x hx' h0
        have h4 := List.pairwise_iff_getElem.1 hs (m - 1) m (by omega) (by omega) (by omega)
        have h5 : zs[m] ≠ zs[m - 1] := by
          unfold Lib.keeps at hk
          rw [hget m (by omega), hget (m - 1) (by omega)] at hk
          simpa [h0] using hk
        omega
      · rw [if_neg hk, List.append_nil]
        refine ⟨h1, fun x => ⟨fun hx => List.mem_append.2 (.inl ((h2 x).1 hx)), fun hx => ?_⟩⟩
        rcases List.mem_append.1 hx with hx | hx
        · exact (h2 x).2 hx
        · have hx' : x = zs[m] := by simpa using hx
          subst hx'
          have h0 : m ≠ 0 := by
            rintro rfl
            exact hk (by simp [Lib.keeps])
          have h5 : zs[m] = zs[m - 1] := by
            unfold Lib.keeps at hk
            rw [hget m (by omega), hget (m - 1) (by omega)] at hk
            simpa [h0] using hk
          rw [h5]
          refine (h2 _).2 ?_
          exact List.mem_take_iff_getElem.2 ⟨m - 1, by omega, rfl⟩
  have := key zs.length (Nat.le_refl _)
  rw [List.take_length] at this
  exact this
theorem sortL_sorted (xs : List Int) : (sortL xs).Pairwise (· ≤ ·) := by
  have := List.pairwise_mergeSort (le := fun x y : Int => decide (x ≤ y)) (fun a b c h1 h2 => by simp at *; omega) (fun a b => by simp; omega) xs
  exact this.imp (fun h => by simpa using h)
theorem sortL_mem (xs : List Int) (x : Int) : x ∈ sortL xs ↔ x ∈ xs := List.mem_mergeSort

/-- How many at the head are less. -/
def lessN (x : Int) : List Int → Nat
  | [] => 0
  | y :: l => if y < x then lessN x l + 1 else 0
/-- x put into its place, if it is not there. -/
def insL (x : Int) (l : List Int) : List Int := if l[lessN x l]? = some x then l else l.take (lessN x l) ++ x :: l.drop (lessN x l)
def setL (xs : List Int) : List Int := xs.foldl (fun l x => insL x l) []
theorem lessN_le (x : Int) : ∀ l, lessN x l ≤ l.length
  | [] => Nat.le_refl _
  | y :: l => by have := lessN_le x l; simp only [lessN]; split <;> simp <;> omega
theorem lessN_lt (x : Int) : ∀ (l : List Int) (y : Int), y ∈ l.take (lessN x l) → y < x
  | [], y, h => by simp at h
  | z :: l, y, h => by
    simp only [lessN] at h
    split at h
    · simp only [List.take_succ_cons] at h
      rcases List.mem_cons.1 h with e | h
      · omega
      · exact lessN_lt x l y h
    · simp at h
theorem lessN_ge (x : Int) : ∀ (l : List Int) (y : Int), l[lessN x l]? = some y → x ≤ y
  | [], y, h => by simp at h
  | z :: l, y, h => by
    simp only [lessN] at h
    split at h
    · rename_i hz
      exact lessN_ge x l y (by simpa using h)
    · simp at h; omega
theorem insL_rise (x : Int) (l : List Int) (h : Rise l) : Rise (insL x l) ∧ ∀ y, y ∈ insL x l ↔ y = x ∨ y ∈ l := by
  unfold insL
  split
  · rename_i he
    refine ⟨h, fun y => ⟨.inr, fun hy => ?_⟩⟩
    rcases hy with rfl | hy
    · exact List.mem_of_getElem? he
    · exact hy
  · rename_i he
    have hsp : l = l.take (lessN x l) ++ l.drop (lessN x l) := (List.take_append_drop _ _).symm
    have hge : ∀ y, y ∈ l.drop (lessN x l) → x < y := by
      intro y hy
      have hr : Rise (l.drop (lessN x l)) := List.Pairwise.sublist (List.drop_sublist _ _) h
      have hhead : ∀ z, (l.drop (lessN x l))[0]? = some z → x < z := by
        intro z hz
        rw [List.getElem?_drop] at hz
        have h1 := lessN_ge x l z (by simpa using hz)
        have h2 : z ≠ x := fun e => he (by rw [e] at hz; simpa using hz)
        omega
      cases hd : l.drop (lessN x l) with
      | nil => rw [hd] at hy; cases hy
      | cons z t =>
        rw [hd] at hy hhead hr
        have h1 := hhead z rfl
        rcases List.mem_cons.1 hy with e | hy
        · omega
        · have := (List.pairwise_cons.1 hr).1 y hy; omega
    refine ⟨?_, fun y => ?_⟩
    · refine List.pairwise_append.2 ⟨List.Pairwise.sublist (List.take_sublist _ _) h, List.pairwise_cons.2 ⟨hge, List.Pairwise.sublist (List.drop_sublist _ _) h⟩, fun a ha b hb => ?_⟩
      have h1 := lessN_lt x l a ha
      rcases List.mem_cons.1 hb with e | hb
      · omega
      · have := hge b hb; omega
    · constructor
      · intro hy
        rcases List.mem_append.1 hy with h | h
        · exact .inr (List.mem_of_mem_take h)
        · rcases List.mem_cons.1 h with e | h
          · exact .inl e
          · exact .inr (List.mem_of_mem_drop h)
      · rintro (rfl | hy)
        · simp
        · rw [hsp] at hy
          rcases List.mem_append.1 hy with h | h
          · exact List.mem_append.2 (.inl h)
          · exact List.mem_append.2 (.inr (List.mem_cons_of_mem _ h))
theorem setL_rise (xs : List Int) : Rise (setL xs) ∧ ∀ y, y ∈ setL xs ↔ y ∈ xs := by
  have key : ∀ (xs l : List Int), Rise l → Rise (xs.foldl (fun l x => insL x l) l) ∧ ∀ y, y ∈ xs.foldl (fun l x => insL x l) l ↔ y ∈ l ∨ y ∈ xs := by
    intro xs
    induction xs with
    | nil => intro l h; exact ⟨h, fun y => by simp⟩
    | cons x xs ih =>
      intro l h
      obtain ⟨h1, h2⟩ := insL_rise x l h
      obtain ⟨h3, h4⟩ := ih _ h1
      refine ⟨h3, fun y => ?_⟩
      rw [List.foldl_cons, h4, h2]
      simp only [List.mem_cons]
      constructor
      · rintro ((h | h) | h) <;> simp [h]
      · rintro (h | h | h) <;> simp [h]
  have := key xs [] List.Pairwise.nil
  exact ⟨this.1, fun y => by rw [setL, this.2]; simp⟩
theorem compact_sort (xs : List Int) : Lib.compact (sortL xs) = setL xs := by
  obtain ⟨h1, h2⟩ := compact_rise _ (sortL_sorted xs)
  obtain ⟨h3, h4⟩ := setL_rise xs
  exact rise_eq h1 h3 fun x => by rw [h2, h4, sortL_mem]
end Go.Proofs.Ytailhdcackkegaa.Wd

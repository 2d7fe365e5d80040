/- vectors: the plain laws. -/
import Derived.Test.YtailhdcackkegaaV1
namespace Go.Proofs.Ytailhdcackkegaa.Wd
open Go.RowKit
set_option linter.unusedVariables false
set_option linter.unusedSimpArgs false


/-! ### vv.With -/
def plainL (v : List Int) : List Int := (v.reverse.dropWhile fun x => decide (x = 0)).reverse
theorem plain_take : ∀ {v : List Int} {n : Nat}, n ≤ v.length → (∀ j x, n ≤ j → v[j]? = some x → x = 0) → (∀ m x, n = m + 1 → v[m]? = some x → x ≠ 0) → plainL v = v.take n := by
  intro v n hn hz he
  have h1 : v = v.take n ++ v.drop n := (List.take_append_drop n v).symm
  unfold plainL
  rw [show v.reverse = (v.drop n).reverse ++ (v.take n).reverse by rw [← List.reverse_append, List.take_append_drop]]
  have hall : ∀ x ∈ (v.drop n).reverse, decide (x = 0) = true := by
    intro x hx
    rw [List.mem_reverse] at hx
    obtain ⟨i, hi⟩ := List.getElem?_of_mem hx
    rw [List.getElem?_drop] at hi
    exact decide_eq_true (hz _ x (by omega) hi)
  rw [List.dropWhile_append_of_pos hall]
  cases n with
  | zero => simp
  | succ m =>
    have hv : v[m]? = some (v[m]'(by omega)) := List.getElem?_eq_getElem (by omega)
    have hne := he m _ rfl hv
    rw [List.take_succ_eq_append_getElem (by omega), List.reverse_append, List.reverse_singleton, List.singleton_append, List.dropWhile_cons_of_neg (by simpa using hne)]
    simp
theorem plain_ex (v : List Int) : ∃ n, n ≤ v.length ∧ (∀ j x, n ≤ j → v[j]? = some x → x = 0) ∧ ∀ m x, n = m + 1 → v[m]? = some x → x ≠ 0 := by
  have key : ∀ k, k ≤ v.length → (∀ j x, k ≤ j → v[j]? = some x → x = 0) → ∃ n, n ≤ v.length ∧ (∀ j x, n ≤ j → v[j]? = some x → x = 0) ∧ ∀ m x, n = m + 1 → v[m]? = some x → x ≠ 0 := by
    intro k
    induction k with
    | zero => intro h1 h2; exact ⟨0, h1, h2, fun m x h => by omega⟩
    | succ k ih =>
      intro h1 h2
      by_cases h : v[k]? = some 0
      · refine ih (by omega) fun j x hj hx => ?_
        rcases Nat.lt_or_ge k j with h3 | h3
        · exact h2 j x h3 hx
        · rw [show j = k by omega, h] at hx; injection hx with hx; exact hx.symm
      · exact ⟨k + 1, h1, h2, fun m x hm hx he => h (by rw [← he, show k = m by omega]; exact hx)⟩
  exact key v.length (Nat.le_refl _) fun j x hj hx => by rw [List.getElem?_eq_none hj] at hx; cases hx
theorem ofL_plain (v : List Int) (o : Int) : ofL (plainL v) o = ofL v o := by
  obtain ⟨n, h1, h2, h3⟩ := plain_ex v
  rw [plain_take h1 h2 h3]
  unfold ofL
  split
  · rfl
  · rw [List.getD_eq_getElem?_getD, List.getD_eq_getElem?_getD, List.getElem?_take]
    split
    · rfl
    · cases h : v[o.toNat]? with
      | none => rfl
      | some x => rw [h2 _ x (by omega) h]; rfl
def withL (v : List Int) (o n : Int) : List Int := plainL ((v ++ List.replicate (o + 1 - v.length).toNat 0).set o.toNat n)
theorem ofL_with {v : List Int} {o n p : Int} (h : 0 ≤ o) : ofL (withL v o n) p = if p = o then n else ofL v p := by
  rw [withL, ofL_plain]
  unfold ofL
  by_cases hp : p < 0
  · rw [if_pos hp, if_neg (by omega), if_pos hp]
  · rw [if_neg hp, if_neg hp, List.getD_eq_getElem?_getD, List.getElem?_set]
    by_cases he : p = o
    · subst he
      rw [if_pos rfl, if_pos rfl, if_pos (by simp; omega)]; rfl
    · rw [if_neg (by omega), if_neg he, List.getD_eq_getElem?_getD]
      rcases Nat.lt_or_ge p.toNat v.length with h1 | h1
      · rw [List.getElem?_append_left h1]
      · rw [List.getElem?_append_right h1, List.getElem?_eq_none h1]
        cases h2 : (List.replicate (o + 1 - v.length).toNat (0 : Int))[p.toNat - v.length]? with
        | none => rfl
        | some x => rw [List.getElem?_replicate] at h2; split at h2; injection h2 with h2; rw [← h2]; rfl; cases h2

end Go.Proofs.Ytailhdcackkegaa.Wd

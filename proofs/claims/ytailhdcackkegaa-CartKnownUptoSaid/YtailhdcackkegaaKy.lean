/- A map with texts as keys, in the shelf's words; its keys, sorted. -/
import Derived.Test.YtailhdcackkegaaMa
import Derived.Sort.KeysCollected
import Derived.Maps.Own
import Derived.Sort.OwnSorted
namespace Go.Proofs.Ytailhdcackkegaa.Wd
open Go.RowKit Go.Sort
set_option linter.unusedVariables false
set_option linter.unusedSimpArgs false

abbrev encS : ByteArray → Value := fun s => Value.string s
theorem Ents.keys {α β : Type} [DecidableEq α] {kd : Kd β} {ok : Nat → Prop} {w : World} {T : List (α × Value × Nat)} {L : List (α × β)} (h : Ents kd ok w T L) : T.map (·.1) = L.map (·.1) := by
  induction h with
  | nil => rfl
  | cons _ _ ih => simp [ih]
theorem Mp.ownsMap {β : Type} {P : Program} {k : TypeId} (hk : P.underlying k = some .string) {kd : Kd β} {ok : Nat → Prop} {w : World} {b : Nat} {L : List (ByteArray × β)} (M : Mp encS kd ok w b L) (hs : ∀ p ∈ L, p.1.size ≤ maxLen) (hl : L.length ≤ maxLen) :
    ∃ D : DataW Unit, w.ownsMap P k (fun _ => some (.nil, [])) b L.length D ∧ Maps.size D = L.length ∧ (strKeys D).Perm (L.map fun p => p.1.data.toList) := by
  obtain ⟨T, clock, h1, h2, h3, h4, h5⟩ := M
  have hlen := h2.len
  have hkeys := h2.keys
  have hkey : ∀ t ∈ T, WideElems.rd (H := Unit) P k (fun _ => some (.nil, [])) (mkE encS t) = some (.string t.1.data.toList, .nil) := by
    intro t ht
    have hm : t.1 ∈ L.map (·.1) := by rw [← hkeys]; exact List.mem_map.2 ⟨t, ht, rfl⟩
    obtain ⟨p, hp, he⟩ := List.mem_map.1 hm
    have := hs p hp
    rw [he] at this
    simp [WideElems.rd, keyOf, hk, mapKey, mkE, this]
  have hrg : (T.map (mkE encS)).map (WideElems.rg (H := Unit) P k fun _ => some (.nil, [])) = T.map fun t => (.string t.1.data.toList, .nil) := by
    rw [List.map_map]
    refine List.map_congr_left fun t ht => ?_
    simp [WideElems.rg, hkey t ht]
  refine ⟨_, ⟨(T.map (mkE encS)).toArray, clock, h1, ⟨by simp; omega, ⟨?_, ?_, ?_⟩, ?_⟩, by simp; omega, rfl⟩, ?_, ?_⟩
  · intro x hx
    obtain ⟨t, ht, rfl⟩ := List.mem_map.1 (show x ∈ T.map (mkE encS) from hx)
    exact h5 t ht
  · simpa [List.map_map, Function.comp_def, mkE] using h4
  · have e : (T.map (mkE encS)).toArray.toList.map (·.key) = (T.map (·.1)).map encS := by simp [mkE, Function.comp_def]
    rw [e]
    exact List.pairwise_map.2 (h3.imp fun {a b} hne he => hne (by injection he))
  · intro x hx
    obtain ⟨t, ht, rfl⟩ := List.mem_map.1 (show x ∈ T.map (mkE encS) from hx)
    exact ⟨_, hkey t ht⟩
  · show (((T.map (mkE encS)).toArray.toList.map (WideElems.rg P k fun _ => some (.nil, []))).foldr DataW.insert []).length = _
    rw [(WideShapes.sorted_perm _).length_eq]
    simp [hlen]
  · show ((((T.map (mkE encS)).toArray.toList.map (WideElems.rg P k fun _ => some (.nil, []))).foldr DataW.insert []).map fun p => strOf p.1).Perm _
    refine ((WideShapes.sorted_perm _).map _).trans ?_
    have e : (T.map (mkE encS)).toArray.toList = T.map (mkE encS) := rfl
    rw [e, hrg, List.map_map]
    have e2 : (L.map fun p => p.1.data.toList) = (L.map (·.1)).map fun s => s.data.toList := by rw [List.map_map]; rfl
    rw [e2, ← hkeys, List.map_map]
    exact List.Perm.refl _
/-- A map's keys, sorted. -/
def keysL {β : Type} (L : List (ByteArray × β)) : List ByteArray := ((L.map fun p => p.1.data.toList).mergeSort fun x y => decide (x ≤ y)).map fun l => ⟨l.toArray⟩
theorem strs_sl {w : World} {base e : Nat} {v : Value} {ss : List (List UInt8)} (h : w.ownsRow base e 1 v ss.length (ss.map encStr)) (hl : ss.length ≤ lim) : Sl Kd.str (Rg 0 base w.heap.size) w v (ss.map fun l => ⟨l.toArray⟩) := by
  have key : ∀ ts : List (List UInt8), ∀ n, Flat Kd.str (fun _ => False) w ((ts.take n).map encStr) ((ts.take n).map fun l => ⟨l.toArray⟩) := by
    intro ts n
    induction n with
    | zero => exact .nil
    | succ n ih =>
      rcases Nat.lt_or_ge n ts.length with h | h
      · rw [List.take_succ_eq_append_getElem h, List.map_append, List.map_append]
        exact .snoc ih rfl
      · rw [List.take_of_length_le (by omega : ts.length ≤ n + 1)]
        rw [List.take_of_length_le h] at ih
        exact ih
  have hf := key ss ss.length
  rw [List.take_length] at hf
  have hown : Own Kd.str e base (fun _ => False) w v (ss.map fun l => (⟨l.toArray⟩ : ByteArray)) := ⟨by simpa using hl, ss.map encStr, hf, by rw [List.length_map]; exact h, fun g _ hg => hg⟩
  exact hown.sl (fun b hb _ => hb.elim) (fun b h1 h2 _ => .inr ⟨h1, h2⟩)
end Go.Proofs.Ytailhdcackkegaa.Wd

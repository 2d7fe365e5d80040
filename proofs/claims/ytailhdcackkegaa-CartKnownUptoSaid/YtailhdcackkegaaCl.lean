/- The map of cart.clears: of each article the vectors by which its events go, each list in a block of its own. -/
import Derived.Test.YtailhdcackkegaaMa
namespace Go.Proofs.Ytailhdcackkegaa.Wd
open Go.RowKit
set_option linter.unusedVariables false
set_option linter.unusedSimpArgs false

/-- A value as it lies. -/
def kRaw : Kd Value where
  sz := 1
  rd := fun _ _ cs x => cs = [x] ∧ x.oneCell' = true
  keep := fun h _ => h
  weak := fun h _ => h
  len := fun h => by rw [h.1]; rfl
  one := fun h v hv => by rw [h.1] at hv; simp at hv; rw [hv]; exact h.2
theorem kInts_pos : 0 < kInts.sz := Nat.one_pos
structure Clr (a n h e : Nat) (w : World) (L0 : List (Art × Value)) (f : Art → List (List Int)) : Prop where
  le : a ≤ n ∧ n ≤ h ∧ h ≤ w.heap.size
  val : ∀ k, (getA k L0 = none ∧ f k = []) ∨ ∃ v, getA k L0 = some v ∧ Own kInts e n (fun b => b < a) w v (f k) ∧ ∀ g, v.ownBlock = some g → n ≤ g ∧ g < h
  apart : ∀ k k' v v' g, getA k L0 = some v → getA k' L0 = some v' → v.ownBlock = some g → v'.ownBlock = some g → k = k'
def putF (f : Art → List (List Int)) (k : Art) (x : List (List Int)) : Art → List (List Int) := fun j => if j = k then x else f j
theorem Clr.start {a n e : Nat} {w : World} (h : a ≤ n) (hn : n ≤ w.heap.size) : Clr a n n e w [] (fun _ => []) := ⟨⟨h, Nat.le_refl _, hn⟩, fun k => .inl ⟨rfl, rfl⟩, fun k k' v v' g h => by simp [getA] at h⟩
theorem Clr.chg {a n h e n' h' : Nat} {w w' : World} {L0 : List (Art × Value)} {f : Art → List (List Int)} (C : Clr a n h e w L0 f) (c : Chg n' h' w w') (hd : h' ≤ n' ∨ a ≤ n' ∧ (h ≤ n' ∨ h' ≤ n)) : Clr a n h e w' L0 f := by
  obtain ⟨hle, hv, ha⟩ := C
  refine ⟨⟨hle.1, hle.2.1, Nat.le_trans hle.2.2 c.size⟩, fun k => ?_, ha⟩
  rcases hv k with hk | ⟨v, h1, h2, h3⟩
  · exact .inl hk
  · refine .inr ⟨v, h1, h2.keep fun b hb hl => c.block b hl ?_, h3⟩
    rcases hb with hb | hb
    · omega
    · have := h3 b hb; omega
theorem Clr.widen {a n h e h' : Nat} {w : World} {L0 : List (Art × Value)} {f : Art → List (List Int)} (C : Clr a n h e w L0 f) (hh : h ≤ h' ∧ h' ≤ w.heap.size) : Clr a n h' e w L0 f := by
  obtain ⟨hle, hv, ha⟩ := C
  refine ⟨⟨hle.1, by omega, hh.2⟩, fun k => ?_, ha⟩
  rcases hv k with hk | ⟨v, h1, h2, h3⟩
  · exact .inl hk
  · exact .inr ⟨v, h1, h2, fun g hg => by have := h3 g hg; omega⟩
theorem Clr.own {a n h e : Nat} {w : World} {L0 : List (Art × Value)} {f : Art → List (List Int)} (C : Clr a n h e w L0 f) (k : Art) : Own kInts e n (fun b => b < a) w ((getA k L0).getD (.slice none 0 0)) (f k) ∧ ∀ g, ((getA k L0).getD (.slice none 0 0)).ownBlock = some g → n ≤ g ∧ g < h := by
  rcases C.val k with ⟨h1, h2⟩ | ⟨v, h1, h2, h3⟩
  · rw [h1, h2]
    exact ⟨Own.nil _ _ _ _ _, fun g hg => by simp [Value.ownBlock] at hg⟩
  · rw [h1]; exact ⟨h2, h3⟩
theorem Clr.sl {a n h e : Nat} {w : World} {L0 : List (Art × Value)} {f : Art → List (List Int)} (C : Clr a n h e w L0 f) (k : Art) : Sl kInts (Rg a n h) w ((getA k L0).getD (.slice none 0 0)) (f k) := by
  obtain ⟨h1, h2⟩ := C.own k
  exact h1.sl (fun b hb _ => .inl hb) (fun b _ _ hb => .inr (h2 b hb))
theorem Clr.add {a n h e : Nat} {w w' : World} {L0 : List (Art × Value)} {f : Art → List (List Int)} (C : Clr a n h e w L0 f) {k : Art} {v' : Value} {x : List (List Int)} (ho : Own kInts e n (fun b => b < a) w' v' x) (hg : w.grownBy w' ((getA k L0).getD (.slice none 0 0)).ownBlock)
    (hat : v'.ownBlock = ((getA k L0).getD (.slice none 0 0)).ownBlock ∨ v'.ownBlock = some w.heap.size) : Clr a n w'.heap.size e w' (putA k v' L0) (putF f k x) ∧ Chg n h w w' := by
  obtain ⟨hown, hin⟩ := C.own k
  have hc : Chg n h w w' := .of_grown hg hin
  have hle := C.le
  have hsz := hc.size
  have hnew : ∀ g, v'.ownBlock = some g → n ≤ g ∧ g < w'.heap.size ∧ (g < h → ∃ v, getA k L0 = some v ∧ v.ownBlock = some g) := by
    intro g hgv
    have hlt := ho.lt g hgv
    refine ⟨hlt.1, hlt.2, fun hgh => ?_⟩
    rcases hat with hat | hat
    · rw [hat] at hgv
      cases hk : getA k L0 with
      | none => rw [hk] at hgv; simp [Value.ownBlock] at hgv
      | some v => rw [hk] at hgv; exact ⟨v, rfl, hgv⟩
    · rw [hat] at hgv; injection hgv with e; omega
  refine ⟨⟨⟨hle.1, by omega, Nat.le_refl _⟩, fun j => ?_, fun j j' u u' g hj hj' hu hu' => ?_⟩, hc⟩
  · rw [getA_put]
    by_cases hjk : j = k
    · subst hjk
      refine .inr ⟨v', by simp, by simpa [putF] using ho, fun g hgv => ⟨(hnew g hgv).1, (hnew g hgv).2.1⟩⟩
    · rw [if_neg hjk, show putF f k x j = f j from if_neg hjk]
      rcases C.val j with hv | ⟨v, h1, h2, h3⟩
      · exact .inl hv
      · refine .inr ⟨v, h1, h2.keep fun b hb hl => hg.block b hl ?_, fun g hgv => by have := h3 g hgv; omega⟩
        intro he
        rcases hb with hb | hb
        · have := hin b he.symm; omega
        · cases hk : getA k L0 with
          | none => rw [hk] at he; simp [Value.ownBlock] at he
          | some v0 => rw [hk] at he; exact hjk (C.apart j k v v0 b h1 hk hb he.symm)
  · rw [getA_put] at hj hj'
    by_cases h1 : j = k <;> by_cases h2 : j' = k
    · rw [h1, h2]
    · rw [if_pos h1] at hj
      rw [if_neg h2] at hj'
      injection hj with hj
      subst hj
      have hlt : g < h := by
        rcases C.val j' with ⟨hv, _⟩ | ⟨v, hv1, _, hv3⟩
        · rw [hv] at hj'; cases hj'
        · rw [hv1] at hj'; injection hj' with e0; subst e0; exact (hv3 g hu').2
      obtain ⟨v, hk, hvg⟩ := (hnew g hu).2.2 hlt
      rw [h1]; exact C.apart k j' v u' g hk hj' hvg hu'
    · rw [if_neg h1] at hj
      rw [if_pos h2] at hj'
      injection hj' with hj'
      subst hj'
      have hlt : g < h := by
        rcases C.val j with ⟨hv, _⟩ | ⟨v, hv1, _, hv3⟩
        · rw [hv] at hj; cases hj
        · rw [hv1] at hj; injection hj with e0; subst e0; exact (hv3 g hu).2
      obtain ⟨v, hk, hvg⟩ := (hnew g hu').2.2 hlt
      rw [h2]; exact C.apart j k u v g hj hk hu hvg
    · rw [if_neg h1] at hj
      rw [if_neg h2] at hj'
      exact C.apart j j' u u' g hj hj' hu hu'
section
variable {P : Program} {ops : Array Oper} {Q : Exit → Act → World → Prop} {rest : List Oper} {l : List Value} {w : World} {ty : TypeId} {pos : String} {after : Array Edge} {d : Tmp}
/-- out[k] = append(out[k], x), the append. -/
theorem s_appendClr {x y : Operand} {t e : TypeId} {z : Value} {bytes : Nat} (ht : P.underlying t = some (.slice e)) (hinfo : (P.info? e).map (fun i => (i.zero, i.size, i.bytes)) = some (some z, 1, bytes)) (hzs : z.cells.size = 1) (hb0 : 0 < bytes) (hb1 : bytes ≤ 2048)
    {a n h : Nat} {L0 : List (Art × Value)} {f : Art → List (List Int)} (C : Clr a n h e w L0 f) {k : Art} (hx : ev l x = (getA k L0).getD (.slice none 0 0)) {b c : Nat} {u : Value} {xs : List Int} (hy : ev l y = .slice (some ⟨b, 0, none⟩) 1 c) (hB : Bx w b [u] e) (hu : Sl kInt (Rg a 0 0) w u xs)
    (hlim : (f k).length + 1 ≤ lim)
    (hK : ∀ v' w', Clr a n w'.heap.size e w' (putA k v' L0) (putF f k (f k ++ [xs])) → v'.oneCell' = true → Chg n h w w' → wpL P ops Q rest (l.set d v') w') :
    wpL P ops Q (⟨some d, .call ⟨.builtin .append, #[x, y], #[t, t]⟩, ty, pos, after, none⟩ :: rest) l w := by
  obtain ⟨hown, hin⟩ := C.own k
  have hle := C.le
  refine s_append kInts x y t rfl rfl n e ht hinfo hzs kInts_pos hb0 hb1 (ok := fun b => b < a) hx hown (ys := [xs]) hy (flat_one ⟨u, rfl, hu.weak (by decide) fun b hb _ => by unfold Rg at hb; omega⟩) (fun _ => ⟨_, rfl, fun j v hv => by rw [Addr.add_mid, Nat.zero_add]; exact hB.cell hv⟩) hlim (by omega) (fun b hb => by omega) ?_
  intro v' w' ho hg hat
  obtain ⟨h1, h2⟩ := C.add ho hg hat
  refine hK v' w' h1 ?_ h2
  exact (ho.sl (ok' := fun _ => True) (fun _ _ _ => trivial) (fun _ _ _ _ => trivial)).one
end
end Go.Proofs.Ytailhdcackkegaa.Wd

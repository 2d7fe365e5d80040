/- Slicing. -/
import Derived.Test.YtailhdcackkegaaEh
namespace Go.Proofs.Ytailhdcackkegaa.Wd
open Go.RowKit
set_option linter.unusedVariables false
set_option linter.unusedSimpArgs false

section
variable {α : Type} {k : Kd α} {ok : Nat → Prop} {w : World} {v : Value} {xs : List α}
theorem Sl.part (h : Sl k ok w v xs) {i j : Nat} (hi : i ≤ j) (hj : j ≤ xs.length) : ∀ A n c, v = .slice A n c → ∀ m, j ≤ m → m ≤ c → Sl k ok w (.slice (if m = i then A else A.map (·.add (i * k.sz))) (j - i) (m - i)) ((xs.take j).drop i) := by
  rintro A n c rfl m hjm hmc
  obtain ⟨A', c', he, hc, hl, hr⟩ := h
  injection he with h1 h2 h3
  subst h1; subst h2; subst h3
  have hlen : ((xs.take j).drop i).length = j - i := by simp; omega
  refine ⟨_, _, by rw [hlen], by rw [hlen]; omega, by rw [hlen]; omega, fun hp => ?_⟩
  rw [hlen] at hp
  obtain ⟨b, o, rfl, hb, hx⟩ := hr (by omega)
  rw [if_neg (by omega)]
  refine ⟨b, o + i * k.sz, by simp [Addr.add_mid], hb, fun q x hq => ?_⟩
  rw [List.getElem?_drop, List.getElem?_take] at hq
  split at hq
  · obtain ⟨cs, h1, h2⟩ := hx _ _ hq
    refine ⟨cs, h1, ?_⟩
    rw [show o + i * k.sz + q * k.sz = o + (i + q) * k.sz by rw [Nat.add_mul]; omega]
    exact h2
  · cases hq
theorem Sl.drop (h : Sl k ok w v xs) {i : Int} (h0 : 0 ≤ i) (h1 : i ≤ xs.length) : ∃ v', Sl k ok w v' (xs.drop i.toNat) ∧
    ∀ (P : Program) (t : TypeId) (l : List Value) (X I : Operand) (kk : IntKind) (w' : World), eSz P t = some k.sz → ev l X = v → ev l I = .int kk i → Run P l (.slice t X (some I) none none) w' v' w' := by
  have h' := h
  obtain ⟨A, c, rfl, hc, hl, hr⟩ := h
  have hp := h'.part (i := i.toNat) (j := xs.length) (by omega) (Nat.le_refl _) A _ c rfl c hc (Nat.le_refl _)
  rw [List.take_length] at hp
  refine ⟨_, hp, fun P t l X I kk w' ht hX hI _ _ _ _ _ => ?_⟩
  unfold eSz at ht
  split at ht
  · rename_i e hs
    cases hi' : P.info? e with
    | none => simp [hi'] at ht
    | some i' =>
      simp [hi'] at ht
      simp [execOp, hX, hI, Instr.sliceAt, Instr.slice, run_underlying hs, Instr.sliceBounds, Instr.sliceBound, asIntOf, h0, h1, sizeOf, typeInfo, hi', ht]
  · cases ht
theorem Sl.take (h : Sl k ok w v xs) {i : Int} (h0 : 0 ≤ i) (h1 : i ≤ xs.length) : ∃ v', Sl k ok w v' (xs.take i.toNat) ∧
    ∀ (P : Program) (t : TypeId) (l : List Value) (X I : Operand) (kk : IntKind) (w' : World), eSz P t = some k.sz → ev l X = v → ev l I = .int kk i → Run P l (.slice t X none (some I) none) w' v' w' := by
  have h' := h
  obtain ⟨A, c, rfl, hc, hl, hr⟩ := h
  have hp := h'.part (i := 0) (j := i.toNat) (by omega) (by omega) A _ c rfl c (by omega) (Nat.le_refl _)
  refine ⟨_, hp, fun P t l X I kk w' ht hX hI _ _ _ _ _ => ?_⟩
  have hci : i ≤ (c : Int) := by omega
  unfold eSz at ht
  split at ht
  · rename_i e hs
    cases hi' : P.info? e with
    | none => simp [hi'] at ht
    | some i' =>
      simp [hi'] at ht
      simp [execOp, hX, hI, Instr.sliceAt, Instr.slice, run_underlying hs, Instr.sliceBounds, Instr.sliceBound, asIntOf, h0, hci, sizeOf, typeInfo, hi', ht]
  · cases ht
theorem Sl.take3 (h : Sl k ok w v xs) {i : Int} (h0 : 0 ≤ i) (h1 : i ≤ xs.length) : ∃ v', Sl k ok w v' (xs.take i.toNat) ∧
    ∀ (P : Program) (t : TypeId) (l : List Value) (X I J : Operand) (kk kk' : IntKind) (w' : World), eSz P t = some k.sz → ev l X = v → ev l I = .int kk i → ev l J = .int kk' i → Run P l (.slice t X none (some I) (some J)) w' v' w' := by
  have h' := h
  obtain ⟨A, c, rfl, hc, hl, hr⟩ := h
  have hp := h'.part (i := 0) (j := i.toNat) (by omega) (by omega) A _ c rfl i.toNat (by omega) (by omega)
  refine ⟨_, hp, fun P t l X I J kk kk' w' ht hX hI hJ _ _ _ _ _ => ?_⟩
  have hci : i ≤ (c : Int) := by omega
  unfold eSz at ht
  split at ht
  · rename_i e hs
    cases hi' : P.info? e with
    | none => simp [hi'] at ht
    | some i' =>
      simp [hi'] at ht
      have hii : i ≤ (i.toNat : Int) := by omega
      simp [execOp, hX, hI, hJ, Instr.sliceAt, Instr.slice, run_underlying hs, Instr.sliceBounds, Instr.sliceBound, asIntOf, h0, hci, hii, sizeOf, typeInfo, hi', ht]
      intro hh; omega
  · cases ht
end
end Go.Proofs.Ytailhdcackkegaa.Wd

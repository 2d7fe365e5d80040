/- Maps: what one holds, as a list of keys with their values; what looking up, setting, and an entry come to. -/
import Derived.Test.YtailhdcackkegaaEs
import Derived.MapKept
namespace Go.Proofs.Ytailhdcackkegaa.Wd
open Go.RowKit
set_option linter.unusedVariables false
set_option linter.unusedSimpArgs false
set_option linter.unusedSectionVars false

section
variable {α : Type} [DecidableEq α]
def mkE (enc : α → Value) (t : α × Value × Nat) : MapEntry := ⟨enc t.1, t.2.1, t.2.2⟩
def findT (k : α) : List (α × Value × Nat) → Nat → Option (Nat × Value)
  | [], _ => none
  | t :: T, i => if k = t.1 then some (i, t.2.1) else findT k T (i + 1)
/-- What the map says of a key. -/
def getA {β : Type} (k : α) : List (α × β) → Option β
  | [] => none
  | p :: L => if k = p.1 then some p.2 else getA k L
/-- The map with another value at a key. -/
def putA {β : Type} (k : α) (x : β) : List (α × β) → List (α × β)
  | [] => [(k, x)]
  | p :: L => if k = p.1 then (p.1, x) :: L else p :: putA k x L
theorem getA_put {β : Type} (k j : α) (x : β) : ∀ L, getA j (putA k x L) = if j = k then some x else getA j L
  | [] => by simp [putA, getA]
  | p :: L => by
    simp only [putA]
    split
    · rename_i h
      simp only [getA]
      by_cases hj : j = p.1
      · simp [hj, h]
      · rw [if_neg hj, if_neg hj, if_neg (by rw [h]; exact hj)]
    · rename_i h
      simp only [getA]
      by_cases hj : j = p.1
      · rw [if_pos hj, if_pos hj, if_neg (fun e => h (by rw [← e]; exact hj))]
      · rw [if_neg hj, if_neg hj]; exact getA_put k j x L
/-- Keys of this type may be told apart. -/
structure KeyOk (P : Program) (kt : TypeId) (enc : α → Value) : Prop where
  find : ∀ (k : α) (T : List (α × Value × Nat)) (w : World), (Instr.findKey kt (enc k) (T.map (mkE enc))).run P w = .ok (findT k T 0) w
  check : ∀ (e : Bool) (k : α) (w : World), (Instr.checkKey e 10000 kt (enc k)).run P w = .ok () w
  bits : ∀ k : α, Instr.sameBits 10000 (enc k) (enc k) = true
theorem findKey_now {P : Program} {kt : TypeId} {d : TypeDesc} {enc : α → Value} (hd : P.underlying kt = some d) (hs : ∀ a b : α, Instr.sameNow d (enc a) (enc b) = some (decide (a = b))) (k : α) (T : List (α × Value × Nat)) (w : World) :
    (Instr.findKey kt (enc k) (T.map (mkE enc))).run P w = .ok (findT k T 0) w := by
  have key : ∀ (T : List (α × Value × Nat)) i, Instr.findNow d (enc k) (T.map (mkE enc)) i = some (findT k T i) := by
    intro T
    induction T with
    | nil => intro i; rfl
    | cons t T ih =>
      intro i
      simp only [List.map_cons, Instr.findNow, mkE, hs, findT]
      by_cases h : k = t.1
      · simp [h]
      · simp only [h, decide_false, if_false]; exact ih (i + 1)
  simp [Instr.findKey, Sem.run_bind, run_underlying hd, key]
theorem findKey_ask {P : Program} {kt : TypeId} {d : TypeDesc} {enc : α → Value} (hd : P.underlying kt = some d) (hn : ∀ a b : α, Instr.sameNow d (enc a) (enc b) = none) (hs : ∀ (a b : α) (w : World), (Op.equal kt (enc a) (enc b)).run P w = .ok (decide (a = b)) w) (k : α) (T : List (α × Value × Nat)) (w : World) :
    (Instr.findKey kt (enc k) (T.map (mkE enc))).run P w = .ok (findT k T 0) w := by
  have key : ∀ (T : List (α × Value × Nat)) i, (Instr.findAsking kt (enc k) (T.map (mkE enc)) i).run P w = .ok (findT k T i) w := by
    intro T
    induction T with
    | nil => intro i; rfl
    | cons t T ih =>
      intro i
      simp only [List.map_cons, Instr.findAsking, Sem.run_bind, mkE, hs, Result.andThen_ok, findT]
      by_cases h : k = t.1
      · simp [h]
      · simp only [h, decide_false, if_false]; exact ih (i + 1)
  cases T with
  | nil => simp [Instr.findKey, Sem.run_bind, run_underlying hd, Instr.findNow, findT]
  | cons t T =>
    have h1 : Instr.findNow d (enc k) ((t :: T).map (mkE enc)) 0 = none := by simp [Instr.findNow, mkE, hn]
    simp only [Instr.findKey, Sem.run_bind, run_underlying hd, Result.andThen_ok, h1]
    exact key _ 0

inductive Ents {β : Type} (kd : Kd β) (ok : Nat → Prop) (w : World) : List (α × Value × Nat) → List (α × β) → Prop
  | nil : Ents kd ok w [] []
  | cons {a : α} {v : Value} {n : Nat} {x : β} {T : List (α × Value × Nat)} {L : List (α × β)} : kd.rd ok w [v] x → Ents kd ok w T L → Ents kd ok w ((a, v, n) :: T) ((a, x) :: L)
variable {β : Type} {kd : Kd β} {ok : Nat → Prop} {w : World} {T : List (α × Value × Nat)} {L : List (α × β)}
theorem Ents.keep {w' : World} (h : Ents kd ok w T L) (k : Kept ok w w') : Ents kd ok w' T L := by
  induction h with
  | nil => exact .nil
  | cons hx _ ih => exact .cons (kd.keep hx k) ih
theorem Ents.weak {ok' : Nat → Prop} (h : Ents kd ok w T L) (k : ∀ b, ok b → b < w.heap.size → ok' b) : Ents kd ok' w T L := by
  induction h with
  | nil => exact .nil
  | cons hx _ ih => exact .cons (kd.weak hx k) ih
theorem Ents.len (h : Ents kd ok w T L) : T.length = L.length := by
  induction h with
  | nil => rfl
  | cons _ _ ih => simp [ih]
theorem Ents.find (h : Ents kd ok w T L) (k : α) : ∀ i, (findT k T i = none ∧ getA k L = none ∧ ∀ t ∈ T, t.1 ≠ k) ∨ ∃ j v n x, findT k T i = some (i + j, v) ∧ T[j]? = some (k, v, n) ∧ kd.rd ok w [v] x ∧ getA k L = some x ∧
    (∀ v' n', Ents kd ok w (T.modify j fun _ => (k, v', n')) (putA k x L) ∨ True) ∧ ∀ v' x', kd.rd ok w [v'] x' → Ents kd ok w (T.modify j fun t => (t.1, v', t.2.2)) (putA k x' L) := by
  induction h with
  | nil => intro i; exact .inl ⟨rfl, rfl, by simp⟩
  | @cons a v n x T L hx ht ih =>
    intro i
    by_cases hk : k = a
    · subst hk
      exact .inr ⟨0, v, n, x, by simp [findT], rfl, hx, by simp [getA], fun _ _ => .inr trivial, fun v' x' hx' => by simp only [putA, if_true, List.modify_zero_cons]; exact .cons hx' ht⟩
    · rcases ih (i + 1) with ⟨h1, h2, h3⟩ | ⟨j, v', n', x', h1, h2, h3, h4, _, h5⟩
      · exact .inl ⟨by simp [findT, hk, h1], by simp [getA, hk, h2], fun t ht' => by rcases List.mem_cons.1 ht' with rfl | ht'; exact fun e => hk e.symm; exact h3 t ht'⟩
      · exact .inr ⟨j + 1, v', n', x', by simp only [findT, if_neg hk, h1]; congr 2; omega, by simpa using h2, h3, by simp [getA, hk, h4], fun _ _ => .inr trivial, fun v2 x2 hx2 => by simp only [putA, if_neg hk, List.modify_succ_cons]; exact .cons hx (h5 v2 x2 hx2)⟩
theorem Ents.snoc (h : Ents kd ok w T L) {k : α} {v : Value} {n : Nat} {x : β} (hx : kd.rd ok w [v] x) (hn : getA k L = none) : Ents kd ok w (T ++ [(k, v, n)]) (putA k x L) := by
  induction h with
  | nil => exact .cons hx .nil
  | @cons a v' n' x' T L hx' ht ih =>
    simp only [getA] at hn
    split at hn
    · cases hn
    · rename_i hk
      simp only [putA, if_neg hk, List.cons_append]
      exact .cons hx' (ih hn)
end

/-- Block b is a map that holds just these. -/
def Mp {α β : Type} [DecidableEq α] (enc : α → Value) (kd : Kd β) (ok : Nat → Prop) (w : World) (b : Nat) (L : List (α × β)) : Prop :=
  ∃ T clock, w.heap[b]? = some (.map (T.map (mkE enc)).toArray clock) ∧ Ents kd ok w T L ∧ (T.map (·.1)).Nodup ∧ (T.map (·.2.2)).Nodup ∧ ∀ t ∈ T, t.2.2 < clock
/-- .. and the entry of this stamp is that of key k. -/
def MpS {α β : Type} [DecidableEq α] (enc : α → Value) (kd : Kd β) (ok : Nat → Prop) (w : World) (b : Nat) (L : List (α × β)) (k : α) (s : Nat) : Prop :=
  ∃ T clock, w.heap[b]? = some (.map (T.map (mkE enc)).toArray clock) ∧ Ents kd ok w T L ∧ (T.map (·.1)).Nodup ∧ (T.map (·.2.2)).Nodup ∧ (∀ t ∈ T, t.2.2 < clock) ∧ ∃ v, (k, v, s) ∈ T
section
variable {α β : Type} [DecidableEq α] {enc : α → Value} {kd : Kd β} {ok : Nat → Prop} {w w' : World} {b : Nat} {L : List (α × β)}
theorem Mp.lt (h : Mp enc kd ok w b L) : b < w.heap.size := let ⟨_, _, h, _⟩ := h; lt_of_block h
theorem MpS.lt {k : α} {s : Nat} (h : MpS enc kd ok w b L k s) : b < w.heap.size := let ⟨_, _, h, _⟩ := h; lt_of_block h
theorem Mp.chgR {a n m n' h : Nat} (M : Mp enc kd (Rg a n m) w b L) (c : Chg n' h w w') (hd : h ≤ n' ∨ (b < n' ∨ h ≤ b) ∧ a ≤ n' ∧ (m ≤ n' ∨ h ≤ n)) : Mp enc kd (Rg a n m) w' b L := by
  have hl := M.lt
  obtain ⟨T, clock, h1, h2, h3⟩ := M
  exact ⟨T, clock, (c.block b hl (by omega)).trans h1, h2.keep (Kept.chg c (by omega)), h3⟩
theorem MpS.chgR {k : α} {s : Nat} {a n m n' h : Nat} (M : MpS enc kd (Rg a n m) w b L k s) (c : Chg n' h w w') (hd : h ≤ n' ∨ (b < n' ∨ h ≤ b) ∧ a ≤ n' ∧ (m ≤ n' ∨ h ≤ n)) : MpS enc kd (Rg a n m) w' b L k s := by
  have hl := M.lt
  obtain ⟨T, clock, h1, h2, h3⟩ := M
  exact ⟨T, clock, (c.block b hl (by omega)).trans h1, h2.keep (Kept.chg c (by omega)), h3⟩
/-- The map itself has turned, nothing that its values lead to. -/
theorem Mp.weak {ok' : Nat → Prop} (M : Mp enc kd ok w b L) (k : ∀ b, ok b → b < w.heap.size → ok' b) : Mp enc kd ok' w b L :=
  let ⟨T, clock, h1, h2, h3⟩ := M; ⟨T, clock, h1, h2.weak k, h3⟩
theorem Mp.keep (M : Mp enc kd ok w b L) (hb : w'.heap[b]? = w.heap[b]?) (k : Kept ok w w') : Mp enc kd ok w' b L :=
  let ⟨T, clock, h1, h2, h3⟩ := M; ⟨T, clock, hb.trans h1, h2.keep k, h3⟩
end

section
variable {P : Program} {ops : Array Oper} {Q : Exit → Act → World → Prop} {rest : List Oper} {l : List Value} {w : World} {ty : TypeId} {pos : String} {after : Array Edge} {g : Option (Nat × Bool)} {d : Tmp}
variable {α β : Type} [DecidableEq α]
theorem getObj_m {r : Nat} {es : Array MapEntry} {clock : Nat} (h : w.heap[r]? = some (.map es clock)) : (getObj r).run P w = .ok (.map es clock) w := by simp [getObj, Sem.run, h]
theorem s_makeMap (t : TypeId) (enc : α → Value) (kd : Kd β) (ok : Nat → Prop) (hw : wan ops l g = true)
    (h : ∀ b w', b = w.heap.size → Mp enc kd ok w' b [] → Chg 0 0 w w' → w'.heap.size = b + 1 → wpL P ops Q rest (l.set d (.map (some b))) w') : wpL P ops Q (⟨some d, .makeMap t none, ty, pos, after, g⟩ :: rest) l w := by
  refine s_val hw (w' := w.alloc (.map #[] 0)) (fun _ _ _ _ _ => ?_) rfl (h w.heap.size (w.alloc (.map #[] 0)) rfl ⟨[], 0, by simpa using heap_alloc_new w (.map #[] 0), .nil, List.nodup_nil, List.nodup_nil, fun t ht => by cases ht⟩ (Chg.alloc _ _) (by simp))
  simp [execOp, Instr.makeMap]
/-- A value looked up: it reads as what the map says of the key, or else as the type's zero. -/
theorem Mp.look {enc : α → Value} {kd : Kd β} {ok : Nat → Prop} {b : Nat} {L : List (α × β)} (M : Mp enc kd ok w b L) {kt : TypeId} (K : KeyOk P kt enc) {t e : TypeId} (ht : P.underlying t = some (.map kt e)) {z : Value} {zb : β} (hz : (P.info? e).map (·.zero) = some (some z)) (hzr : kd.rd ok w [z] zb) (k : α) :
    ∃ v, kd.rd ok w [v] ((getA k L).getD zb) ∧ ∀ (l : List Value) (X I : Operand), ev l X = .map (some b) → ev l I = enc k → Run P l (.lookup t X I false) w v w := by
  obtain ⟨T, clock, h1, h2, h3, h4, h5⟩ := M
  obtain ⟨i0, hi, hzz⟩ := Option.map_eq_some_iff.1 hz
  rcases h2.find k 0 with ⟨f1, f2, _⟩ | ⟨j, v, n, x, f1, _, f3, f4, _⟩
  · refine ⟨z, by rw [f2]; exact hzr, fun l X I hX hI _ _ _ _ _ => ?_⟩
    simp [execOp, hX, hI, Instr.lookup, run_underlying ht, getObj_m h1, K.check, K.find, f1, zeroValue, typeInfo, hi, hzz]
  · refine ⟨v, by rw [f4]; exact f3, fun l X I hX hI _ _ _ _ _ => ?_⟩
    simp [execOp, hX, hI, Instr.lookup, run_underlying ht, getObj_m h1, K.check, K.find, f1]
theorem run_setObj_map {r : Nat} {es : Array MapEntry} {clock : Nat} (hb : w.heap[r]? = some (.map es clock)) (o : Obj) : (setObj r o).run P w = .ok () { w with heap := w.heap.setIfInBounds r o } := by
  simp [setObj, Sem.run, hb]
theorem chg_set (w : World) (b : Nat) (o : Obj) : Chg b (b + 1) w { w with heap := w.heap.setIfInBounds b o } :=
  ⟨rfl, rfl, rfl, by simp, fun k hk hn => by simp [Array.getElem?_setIfInBounds, show b ≠ k by omega]⟩
theorem nodup_modify {γ : Type} (f : α × γ → α × γ) (hf : ∀ t, (f t).1 = t.1) : ∀ (T : List (α × γ)) j, (T.modify j f).map (·.1) = T.map (·.1)
  | [], _ => by simp
  | t :: T, 0 => by simp [hf]
  | t :: T, j + 1 => by simp [nodup_modify f hf T j]
theorem map_modify_val (T : List (α × Value × Nat)) (j : Nat) (v : Value) : ((T.modify j fun t => (t.1, v, t.2.2)).map (·.1) = T.map (·.1)) ∧ ((T.modify j fun t => (t.1, v, t.2.2)).map (·.2.2) = T.map (·.2.2)) := by
  induction T generalizing j with
  | nil => simp
  | cons t T ih => cases j with
    | zero => simp
    | succ j => simp [ih j]
theorem mk_modify (enc : α → Value) (k : α) : ∀ (T : List (α × Value × Nat)) (j : Nat) (v v0 : Value) (n : Nat), T[j]? = some (k, v0, n) → ((T.map (mkE enc)).modify j fun e => { e with key := enc k, val := v }) = (T.modify j fun t => (t.1, v, t.2.2)).map (mkE enc)
  | [], j, v, v0, n, h => by simp at h
  | t :: T, 0, v, v0, n, h => by simp at h; subst h; simp [mkE]
  | t :: T, j + 1, v, v0, n, h => by simp at h; simp [mk_modify enc k T j v v0 n h]
theorem s_mapUpdate (t : TypeId) (x y z : Operand) (hw : wan ops l g = true) {enc : α → Value} {kd : Kd β} {a n m b : Nat} {L : List (α × β)} (M : Mp enc kd (Rg a n m) w b L) {kt e : TypeId} (K : KeyOk P kt enc) (ht : P.underlying t = some (.map kt e)) {k : α} {v : Value} {xv : β}
    (hx : ev l x = .map (some b)) (hy : ev l y = enc k) (hz : ev l z = v) (hv : kd.rd (Rg a n m) w [v] xv) (hb : a ≤ b ∧ (m ≤ b ∨ b < n))
    (h : ∀ w', Mp enc kd (Rg a n m) w' b (putA k xv L) → Chg b (b + 1) w w' → w'.heap.size = w.heap.size → wpL P ops Q rest l w') : wpL P ops Q (⟨none, .mapUpdate t x y z, ty, pos, after, g⟩ :: rest) l w := by
  obtain ⟨T, clock, h1, h2, h3, h4, h5⟩ := M
  have hlt := lt_of_block h1
  have hset : ∀ o : Obj, ({ w with heap := w.heap.setIfInBounds b o } : World).heap[b]? = some o := fun o => by simp [Array.getElem?_setIfInBounds, hlt]
  have hkept : ∀ o : Obj, Kept (Rg a n m) w { w with heap := w.heap.setIfInBounds b o } := fun o => Kept.chg (chg_set w b o) (by omega)
  rcases h2.find k 0 with ⟨f1, f2, f3⟩ | ⟨j, v0, s, x0, f1, fj, f3, f4, _, f5⟩
  · refine s_unit hw (w' := { w with heap := w.heap.setIfInBounds b (.map ((T ++ [(k, v, clock)]).map (mkE enc)).toArray (clock + 1)) }) ?_ (h _ ⟨T ++ [(k, v, clock)], clock + 1, hset _, (h2.snoc hv f2).keep (hkept _), ?_, ?_, ?_⟩ (chg_set _ _ _) (by simp))
    · simp [execOp, hx, hy, hz, Instr.mapUpdate, run_underlying ht, getObj_m h1, K.check, K.find, f1, run_setObj_map h1, mkE]
    · rw [List.map_append, List.nodup_append]
      refine ⟨h3, by simp, fun x hx y hy => ?_⟩
      simp at hy
      subst hy
      obtain ⟨t0, ht0, rfl⟩ := List.mem_map.1 hx
      exact f3 t0 ht0
    · rw [List.map_append, List.nodup_append]
      refine ⟨h4, by simp, fun x hx y hy => ?_⟩
      simp at hy
      subst hy
      obtain ⟨t0, ht0, rfl⟩ := List.mem_map.1 hx
      have := h5 t0 ht0; omega
    · intro t0 ht0
      rcases List.mem_append.1 ht0 with ht0 | ht0
      · have := h5 t0 ht0; omega
      · simp at ht0; subst ht0; simp
  · have hmm := map_modify_val T j v
    refine s_unit hw (w' := { w with heap := w.heap.setIfInBounds b (.map ((T.modify j fun t => (t.1, v, t.2.2)).map (mkE enc)).toArray clock) }) ?_ (h _ ⟨_, clock, hset _, (f5 v xv hv).keep (hkept _), by rw [hmm.1]; exact h3, by rw [hmm.2]; exact h4, fun t0 ht0 => ?_⟩ (chg_set _ _ _) (by simp))
    · have hj : ((T.map (mkE enc))[j]?).map (·.key) = some (enc k) := by simp [fj, mkE]
      have hkts : (Instr.keyThatStays (enc k) (enc k)).run P w = .ok (enc k) w := by simp [Instr.keyThatStays, K.bits]
      have hj2 : (Option.map MapEntry.key ((T.map (mkE enc)).toArray[j]?)).getD (enc k) = enc k := by simp [fj, mkE]
      simp only [Nat.zero_add] at f1
      simp only [execOp, hx, hy, hz, Instr.mapUpdate, Sem.run_bind, run_underlying ht, Result.andThen_ok, getObj_m h1, K.check, K.find, f1, hj2, hkts, run_setObj_map h1]
      rw [← mk_modify enc k T j v v0 s fj]
      simp
    · have : t0.2.2 ∈ T.map (·.2.2) := by rw [← hmm.2]; exact List.mem_map.2 ⟨t0, ht0, rfl⟩
      obtain ⟨t1, ht1, he⟩ := List.mem_map.1 this
      rw [← he]; exact h5 t1 ht1
theorem nodup_idx {γ : Type} {l : List γ} (h : l.Nodup) {i j : Nat} {x : γ} (hi : l[i]? = some x) (hj : l[j]? = some x) : i = j := by
  obtain ⟨hi1, hi2⟩ := List.getElem?_eq_some_iff.1 hi
  obtain ⟨hj1, hj2⟩ := List.getElem?_eq_some_iff.1 hj
  have hp := List.pairwise_iff_getElem.1 h
  rcases Nat.lt_trichotomy i j with hh | hh | hh
  · exact absurd (hi2.trans hj2.symm) (hp i j hi1 hj1 hh)
  · exact hh
  · exact absurd (hj2.trans hi2.symm) (hp j i hj1 hi1 hh)
theorem putA_put {k : α} {x z : β} : ∀ {L : List (α × β)}, getA k L = none → putA k x (putA k z L) = putA k x L
  | [], _ => by simp [putA]
  | p :: L, h => by
    simp only [getA] at h
    split at h
    · cases h
    · rename_i hk
      simp only [putA, if_neg hk]
      rw [putA_put h]
theorem mk_key (enc : α → Value) (k : α) : ∀ (T : List (α × Value × Nat)) (j : Nat) (v0 : Value) (n : Nat), T[j]? = some (k, v0, n) → ((T.map (mkE enc)).modify j fun e => { e with key := enc k }) = T.map (mkE enc)
  | [], j, v0, n, h => by simp at h
  | t :: T, 0, v0, n, h => by simp at h; subst h; simp [mkE]
  | t :: T, j + 1, v0, n, h => by simp at h; simp [mk_key enc k T j v0 n h]
theorem mk_val (enc : α → Value) (v : Value) : ∀ (T : List (α × Value × Nat)) (j : Nat), ((T.map (mkE enc)).modify j fun e => { e with val := v }) = (T.modify j fun t => (t.1, v, t.2.2)).map (mkE enc)
  | [], j => by simp
  | t :: T, 0 => by simp [mkE]
  | t :: T, j + 1 => by simp [mk_val enc v T j]
theorem s_mapEntry (t : TypeId) (x y : Operand) (hw : wan ops l g = true) {enc : α → Value} {kd : Kd β} {a n m b : Nat} {L : List (α × β)} (M : Mp enc kd (Rg a n m) w b L) {kt e : TypeId} (K : KeyOk P kt enc) (ht : P.underlying t = some (.map kt e)) {z : Value} {zb : β} (hzz : (P.info? e).map (·.zero) = some (some z)) (hzr : kd.rd (Rg a n m) w [z] zb) {k : α}
    (hx : ev l x = .map (some b)) (hy : ev l y = enc k) (hb : a ≤ b ∧ (m ≤ b ∨ b < n))
    (h : ∀ v s L1 w', MpS enc kd (Rg a n m) w' b L1 k s → (∀ x, putA k x L1 = putA k x L) → kd.rd (Rg a n m) w' [v] ((getA k L).getD zb) → Chg b (b + 1) w w' → w'.heap.size = w.heap.size → wpL P ops Q rest (l.set d (.tuple #[v, .int .i64 (s : Nat)])) w') : wpL P ops Q (⟨some d, .mapEntry t x y, ty, pos, after, g⟩ :: rest) l w := by
  obtain ⟨T, clock, h1, h2, h3, h4, h5⟩ := M
  obtain ⟨i0, hi, hz2⟩ := Option.map_eq_some_iff.1 hzz
  have hlt := lt_of_block h1
  have hset : ∀ o : Obj, ({ w with heap := w.heap.setIfInBounds b o } : World).heap[b]? = some o := fun o => by simp [Array.getElem?_setIfInBounds, hlt]
  have hkept : ∀ o : Obj, Kept (Rg a n m) w { w with heap := w.heap.setIfInBounds b o } := fun o => Kept.chg (chg_set w b o) (by omega)
  rcases h2.find k 0 with ⟨f1, f2, f3⟩ | ⟨j, v0, s, x0, f1, fj, f3, f4, _, f5⟩
  · refine s_val hw (w' := { w with heap := w.heap.setIfInBounds b (.map ((T ++ [(k, z, clock)]).map (mkE enc)).toArray (clock + 1)) }) (v := .tuple #[z, .int .i64 (clock : Nat)]) (fun _ _ _ _ _ => ?_) rfl
      (h z clock (putA k zb L) _ ⟨T ++ [(k, z, clock)], clock + 1, hset _, (h2.snoc hzr f2).keep (hkept _), ?_, ?_, ?_, z, by simp⟩ (fun x => putA_put f2) (by rw [f2]; exact kd.keep hzr (hkept _)) (chg_set _ _ _) (by simp))
    · simp [execOp, hx, hy, Instr.mapEntry, run_underlying ht, getObj_m h1, K.check, K.find, f1, run_setObj_map h1, mkE, zeroValue, typeInfo, hi, hz2, goInt]
    · rw [List.map_append, List.nodup_append]
      refine ⟨h3, by simp, fun x hx y hy => ?_⟩
      simp at hy
      subst hy
      obtain ⟨t0, ht0, rfl⟩ := List.mem_map.1 hx
      exact f3 t0 ht0
    · rw [List.map_append, List.nodup_append]
      refine ⟨h4, by simp, fun x hx y hy => ?_⟩
      simp at hy
      subst hy
      obtain ⟨t0, ht0, rfl⟩ := List.mem_map.1 hx
      have := h5 t0 ht0; omega
    · intro t0 ht0
      rcases List.mem_append.1 ht0 with ht0 | ht0
      · have := h5 t0 ht0; omega
      · simp at ht0; subst ht0; simp
  · refine s_val hw (w' := { w with heap := w.heap.setIfInBounds b (.map (T.map (mkE enc)).toArray clock) }) (v := .tuple #[v0, .int .i64 (s : Nat)]) (fun _ _ _ _ _ => ?_) rfl
      (h v0 s L _ ⟨T, clock, hset _, h2.keep (hkept _), h3, h4, h5, v0, List.mem_of_getElem? fj⟩ (fun x => rfl) (by rw [f4]; exact kd.keep f3 (hkept _)) (chg_set _ _ _) (by simp))
    have hkts : (Instr.keyThatStays (enc k) (enc k)).run P w = .ok (enc k) w := by simp [Instr.keyThatStays, K.bits]
    have hj2 : (Option.map MapEntry.key ((T.map (mkE enc)).toArray[j]?)).getD (enc k) = enc k := by simp [fj, mkE]
    have hj3 : (Option.map MapEntry.born ((T.map (mkE enc)).toArray[j]?)).getD 0 = s := by simp [fj, mkE]
    simp only [Nat.zero_add] at f1
    simp only [execOp, hx, hy, Instr.mapEntry, Sem.run_bind, run_underlying ht, Result.andThen_ok, getObj_m h1, K.check, K.find, f1, hj2, hkts, run_setObj_map h1, hj3]
    rw [← mk_key enc k T j v0 s fj]
    simp [goInt, mk_key enc k T j v0 s fj, fj, mkE]
theorem s_entryStore (t : TypeId) (x y z : Operand) (hw : wan ops l g = true) {enc : α → Value} {kd : Kd β} {a n m b s : Nat} {L : List (α × β)} {k : α} (M : MpS enc kd (Rg a n m) w b L k s) {v : Value} {xv : β}
    (hx : ev l x = .map (some b)) (hy : ev l y = .int .i64 (s : Nat)) (hz : ev l z = v) (hv : kd.rd (Rg a n m) w [v] xv) (hb : a ≤ b ∧ (m ≤ b ∨ b < n))
    (h : ∀ w', Mp enc kd (Rg a n m) w' b (putA k xv L) → Chg b (b + 1) w w' → w'.heap.size = w.heap.size → wpL P ops Q rest l w') : wpL P ops Q (⟨none, .entryStore t x y z, ty, pos, after, g⟩ :: rest) l w := by
  obtain ⟨T, clock, h1, h2, h3, h4, h5, v0, hmem⟩ := M
  have hlt := lt_of_block h1
  have hset : ∀ o : Obj, ({ w with heap := w.heap.setIfInBounds b o } : World).heap[b]? = some o := fun o => by simp [Array.getElem?_setIfInBounds, hlt]
  have hkept : ∀ o : Obj, Kept (Rg a n m) w { w with heap := w.heap.setIfInBounds b o } := fun o => Kept.chg (chg_set w b o) (by omega)
  obtain ⟨j, hj⟩ := List.getElem?_of_mem hmem
  rcases h2.find k 0 with ⟨f1, f2, f3⟩ | ⟨j', v1, s', x0, f1, fj, f3, f4, _, f5⟩
  · exact absurd rfl (f3 _ hmem)
  have hjj : j' = j := nodup_idx h3 (x := k) (by simp [fj]) (by simp [hj])
  subst hjj
  have hmm := map_modify_val T j' v
  have hfi : (T.map (mkE enc)).toArray.findIdx? (fun e => (e.born : Int) == ((s : Nat) : Int)) = some j' := by
    rw [List.findIdx?_toArray, List.findIdx?_eq_some_iff_getElem]
    obtain ⟨hjl, hjv⟩ := List.getElem?_eq_some_iff.1 hj
    refine ⟨by simpa using hjl, by simp [hjv, mkE], fun i hi => ?_⟩
    simp only [List.getElem_map, mkE, beq_iff_eq]
    intro e
    have e' : (T[i]'(by omega)).2.2 = s := by omega
    have := nodup_idx h4 (i := i) (j := j') (x := s) (by simp [List.getElem?_eq_getElem (show i < T.length by omega), e']) (by simp [hj])
    omega
  refine s_unit hw (w' := { w with heap := w.heap.setIfInBounds b (.map ((T.modify j' fun t => (t.1, v, t.2.2)).map (mkE enc)).toArray clock) }) ?_ (h _ ⟨_, clock, hset _, (f5 v xv hv).keep (hkept _), by rw [hmm.1]; exact h3, by rw [hmm.2]; exact h4, fun t0 ht0 => ?_⟩ (chg_set _ _ _) (by simp))
  · have hai : (asInt (.int .i64 ((s : Nat) : Int))).run P w = .ok ((s : Nat) : Int) w := rfl
    simp only [execOp, hx, hy, hz, Instr.entryStore, Sem.run_bind, Result.andThen_ok, getObj_m h1, hai, hfi, run_setObj_map h1]
    rw [← mk_val enc v T j']
    simp
  · have : t0.2.2 ∈ T.map (·.2.2) := by rw [← hmm.2]; exact List.mem_map.2 ⟨t0, ht0, rfl⟩
    obtain ⟨t1, ht1, he⟩ := List.mem_map.1 this
    rw [← he]; exact h5 t1 ht1
end

end Go.Proofs.Ytailhdcackkegaa.Wd
namespace Go.Proofs.Ytailhdcackkegaa.Wd
theorem ba_beq (a b : ByteArray) : (a == b) = decide (a = b) := by
  have h : (a == b) = (a.data == b.data) := rfl
  rw [h]
  by_cases h : a = b
  · subst h; simp
  · rw [decide_eq_false h, beq_eq_false_iff_ne]
    intro e
    exact h (by cases a; cases b; simp at e; simp [e])
theorem bits_str (n : Nat) (s : ByteArray) : Instr.sameBits (n + 1) (.string s) (.string s) = true := by simp [Instr.sameBits, ba_beq]
theorem bits_int (n : Nat) (k : IntKind) (s : Int) : Instr.sameBits (n + 1) (.int k s) (.int k s) = true := by simp [Instr.sameBits]
theorem bits_agg2 (n : Nat) {a b : Value} (ha : Instr.sameBits n a a = true) (hb : Instr.sameBits n b b = true) : Instr.sameBits (n + 1) (.agg #[a, b]) (.agg #[a, b]) = true := by simp [Instr.sameBits, ha, hb]
theorem check_str {P : Program} {t : TypeId} (ht : P.underlying t = some .string) (e : Bool) (n : Nat) (k : ByteArray) (w : World) : (Instr.checkKey e (n + 1) t (.string k)).run P w = .ok () w := by
  simp [Instr.checkKey, Sem.run_bind, run_underlying ht]
theorem check_int {P : Program} {t : TypeId} {q : IntKind} (ht : P.underlying t = some (.int q)) (e : Bool) (n : Nat) (r : IntKind) (k : Int) (w : World) : (Instr.checkKey e (n + 1) t (.int r k)).run P w = .ok () w := by
  simp [Instr.checkKey, Sem.run_bind, run_underlying ht]
theorem check_agg2 {P : Program} {t : TypeId} {f g : Field} (ht : P.underlying t = some (.struct #[f, g])) (hf : (f.name == "_") = false) (hg : (g.name == "_") = false) {e : Bool} {n : Nat} {cs : Array Value} {a b : Value} {w : World}
    (pa : (part f.type cs f.offset).run P w = .ok a w) (pb : (part g.type cs g.offset).run P w = .ok b w) (ca : (Instr.checkKey e n f.type a).run P w = .ok () w) (cb : (Instr.checkKey e n g.type b).run P w = .ok () w) : (Instr.checkKey e (n + 1) t (.agg cs)).run P w = .ok () w := by
  have hf' : f.name ≠ "_" := by simpa using hf
  have hg' : g.name ≠ "_" := by simpa using hg
  simp [Instr.checkKey, Sem.run_bind, run_underlying ht, hf', hg', pa, pb, ca, cb]
theorem keyOk_str {P : Program} {t : TypeId} (ht : P.underlying t = some .string) : KeyOk P t (fun s : ByteArray => Value.string s) where
  find := findKey_now ht fun a b => by simp only [Instr.sameNow, ba_beq]
  check := fun e k w => check_str ht e 9999 k w
  bits := fun k => bits_str 9999 k
theorem keyOk_int {P : Program} {t : TypeId} (ht : P.underlying t = some (.int .i64)) : KeyOk P t (fun s : Int => Value.int .i64 s) where
  find := findKey_now ht fun a b => by simp only [Instr.sameNow, if_true]; congr 1
  check := fun e k w => check_int ht e 9999 _ k w
  bits := fun k => bits_int 9999 _ k
end Go.Proofs.Ytailhdcackkegaa.Wd

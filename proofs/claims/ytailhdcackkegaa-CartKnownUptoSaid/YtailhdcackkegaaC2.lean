/- cart.where, cut.where: the events of which a function tells true. -/
import Derived.Test.YtailhdcackkegaaC1
import Derived.Test.YtailhdcackkegaaProg
namespace Go.Proofs.Ytailhdcackkegaa.Wd
open Go.RowKit
set_option linter.unusedVariables false
set_option linter.unusedSimpArgs false

/-- The events of which a function, that may remember, tells true. -/
def whereL {σ : Type} (sel : σ → Ev → Bool × σ) : σ → List Ev → List Ev × σ
  | s, [] => ([], s)
  | s, e :: l => (bif (sel s e).1 then e :: (whereL sel (sel s e).2 l).1 else (whereL sel (sel s e).2 l).1, (whereL sel (sel s e).2 l).2)
theorem whereL_snoc {σ : Type} (sel : σ → Ev → Bool × σ) (e : Ev) : ∀ (l : List Ev) (s : σ), whereL sel s (l ++ [e]) = ((whereL sel s l).1 ++ (bif (sel (whereL sel s l).2 e).1 then [e] else []), (sel (whereL sel s l).2 e).2)
  | [], s => by cases h : (sel s e).1 <;> simp [whereL, h]
  | a :: l, s => by
    simp only [List.cons_append, whereL, whereL_snoc sel e l]
    cases (sel s a).1 <;> simp
theorem whereL_len {σ : Type} (sel : σ → Ev → Bool × σ) : ∀ (l : List Ev) (s : σ), (whereL sel s l).1.length ≤ l.length
  | [], s => by simp [whereL]
  | a :: l, s => by
    have := whereL_len sel l (sel s a).2
    simp only [whereL]
    cases (sel s a).1 <;> simp <;> omega

/-- cart.where -/
theorem where_c {σ : Type} {ok : Nat → Prop} {w : World} {v : Value} {l : List Ev} (hS : Sl kEv ok w v l) {n h : Nat} (hn0 : n ≤ h) (hnh : h ≤ w.heap.size) (hok : ∀ b, ok b → b < w.heap.size → b < n ∨ h ≤ b)
    {f : Nat} {cap : List Value} (hf : callable Try.prog f = true) (sel : σ → Ev → Bool × σ) (s0 : σ) (J : σ → World → Prop) (hJ0 : J s0 w) (hJ : ∀ s w1 w2 p q, J s w1 → Chg p q w1 w2 → (q ≤ p ∨ h ≤ p) → J s w2)
    (hwant : ∀ s w1 e cs ok', J s w1 → Chg n h w w1 → kEv.rd ok' w1 cs e → CallsV Try.prog f (.agg cs.toArray :: cap).toArray w1 (fun r w2 => r = .bool (sel s e).1 ∧ J (sel s e).2 w2 ∧ Chg n h w1 w2)) :
    CallsV Try.prog 58 #[v, (.func (.func f) #[] cap.toArray)] w (fun r w' => Sl kEv (Rg 0 w.heap.size w'.heap.size) w' r (whereL sel s0 l).1 ∧ J (whereL sel s0 l).2 w' ∧ Chg n h w w') := by
  have hb := Bel.refl w
  have hb : Chg n h w w := Chg.refl _ _ _
  have hlim := lim_le hS.lim
  replace hS : Sl kEv (Rg n h w.heap.size) w v l := hS.weak (by decide) (fun b hb hl => by have := hok b hb hl; unfold Rg; omega)
  have hK : ∀ w', Chg n h w w' → Sl kEv (Rg n h w.heap.size) w' v l := fun w' c => hS.keep (Kept.of_chg c (fun b hb hl => by unfold Rg at hb; omega))
  refine callsV_of Try.func58 (m := 22) Try.ntmps58 rfl rfl (l := [v, .func (.func f) #[] cap.toArray, undef, undef, undef, undef, undef, undef, undef, undef, undef, undef, undef, undef, undef, undef, undef, undef, undef, undef, undef, undef, undef, undef]) rfl ?_
  refine c_seq ?_
  refine c_region ?_
  refine s_val (v := (.slice none 0 0)) rfl (r_assign rfl) (rfl : _ = [_, _, _, _, _, _, _, _, _, _, _, _, _, _, _, _, _, _, _, _, _, _, _, _]) ?_
  refine s_nil rfl ?_
  refine x_seq ?_
  refine c_seq ?_
  refine c_region ?_
  refine s_val (v := (.slice none 0 0)) rfl (r_assign rfl) (rfl : _ = [_, _, _, _, _, _, _, _, _, _, _, _, _, _, _, _, _, _, _, _, _, _, _, _]) ?_
  refine s_nil rfl ?_
  refine x_seq ?_
  refine c_seq ?_
  refine c_seq ?_
  refine c_region ?_
  refine s_val (v := v) rfl (r_move rfl) (rfl : _ = [_, _, _, _, _, _, _, _, _, _, _, _, _, _, _, _, _, _, _, _, _, _, _, _]) ?_
  refine s_val (v := (.int .i64 (l.length : Int))) rfl ((hK _ hb).len Try.underlying34 rfl _) (rfl : _ = [_, _, _, _, _, _, _, _, _, _, _, _, _, _, _, _, _, _, _, _, _, _, _, _]) ?_
  refine s_val (v := (.int .i64 0)) rfl (r_move rfl) (rfl : _ = [_, _, _, _, _, _, _, _, _, _, _, _, _, _, _, _, _, _, _, _, _, _, _, _]) ?_
  refine s_nil rfl ?_
  refine x_seq ?_
  refine c_block ?_
  refine c_loop (fun kk_ fr_ wr1 => ∃ (i : Nat) (out : Value) (hh : Nat) (jk2 : Nat → Value), kk_ = l.length - i ∧ fr_ = [jk2 0, .func (.func f) #[] cap.toArray, jk2 1, jk2 2, .slice none 0 0, out, jk2 3, jk2 4, v, .int .i64 (l.length : Int), .int .i64 (i : Int), jk2 5, jk2 6, jk2 7, jk2 8, jk2 9, jk2 10, jk2 11, jk2 12, jk2 13, jk2 14, jk2 15, jk2 16, undef] ∧ (i ≤ l.length) ∧ Chg n h w wr1 ∧ w.heap.size ≤ wr1.heap.size ∧ OwnX kEv 39 0 w.heap.size hh wr1 out (whereL sel s0 (l.take i)).1 ∧ J (whereL sel s0 (l.take i)).2 wr1) _ ⟨0, (.slice none 0 0), w.heap.size, (fun n_ => ([v, undef, undef, undef, undef, undef, undef, undef, undef, undef, undef, undef, undef, undef, undef, undef, undef] : List Value).getD n_ undef), rfl, rfl, (Nat.zero_le _), hb, (Nat.le_refl _), (OwnX.nil _ _ (by omega) (by omega)), hJ0⟩ ?_
  rintro _ _ wr1 ⟨i, out, hh, jk2, rfl, rfl, hi, hb3, hws4, hO, hJi⟩
  have hs5 := hb3.size
  have hl6 := hO.hi
  have hl7 := lim_le hO.lim
  refine c_seq ?_
  refine c_region ?_
  refine s_bool (p := ((i : Int) < (l.length : Int) : Prop)) rfl (r_lss rfl rfl) decide_eq_true_iff ?_
  intro b8 hb8
  refine norm (rfl : _ = [_, _, _, _, _, _, _, _, _, _, _, _, _, _, _, _, _, _, _, _, _, _, _, _]) ?_
  refine s_nil rfl ?_
  refine x_seq ?_
  refine c_seq ?_
  cases b8 with
  | true =>
    replace hb8 := bt hb8
    refine c_cond rfl (fun _ => ?_) (fun hh => by cases hh)
    refine c_skip ?_
    refine x_seq ?_
    refine c_seq ?_
    refine c_block ?_
    refine c_seq ?_
    refine c_region ?_
    obtain ⟨e9, a10, o11, c12, he13, hc14, hr15, hk16, hi17⟩ := (hK _ hb3).idx (j := (i : Int)) (by first | omega | decide) (by first | omega | simp)
    rw [Int.toNat_natCast] at he13
    obtain ⟨d18, rfl, hd19⟩ := kEv_cells.1 hc14
    refine s_val rfl (hi17 _ _ _ _ _ _ _ (by kernel_rfl) rfl rfl) (rfl : _ = [_, _, _, _, _, _, _, _, _, _, _, _, _, _, _, _, _, _, _, _, _, _, _, _]) ?_
    refine s_val (v := (.agg #[.int .i64 e9.dot.o, .int .i64 e9.dot.s, d18, .string e9.cart, .int .i64 e9.epoch, .string e9.sku, .int .i64 e9.qty, .bool e9.clears])) rfl (r_load rfl (Ld.row Try.underlying39 rfl (by kernel_rfl) hr15)) (rfl : _ = [_, _, _, _, _, _, _, _, _, _, _, _, _, _, _, _, _, _, _, _, _, _, _, _]) ?_
    refine s_alloc (z := (.agg #[.int .i64 0, .int .i64 0, .slice none 0 0, .string ⟨#[]⟩, .int .i64 0, .string ⟨#[]⟩, .int .i64 0, .bool false])) 39 (by kernel_rfl) rfl ?_
    intro a20 w21 he22 hB23 hc24 hz25
    refine norm (rfl : _ = [_, _, _, _, _, _, _, _, _, _, _, _, _, _, _, _, _, _, _, _, _, _, _, _]) ?_
    have hs26 := hc24.size
    replace hb3 := hb3.chg hc24 (by omega)
    replace hO := hO.chg hc24 (by omega)
    replace hJi := hJ _ _ _ _ _ hJi hc24 (by omega)
    replace hd19 := hd19.chg hc24 (by omega)
    refine s_store (b := a20) (o := 0) (vs := [.int .i64 e9.dot.o, .int .i64 e9.dot.s, d18, .string e9.cart, .int .i64 e9.epoch, .string e9.sku, .int .i64 e9.qty, .bool e9.clears]) (cs := [.int .i64 0, .int .i64 0, .slice none 0 0, .string ⟨#[]⟩, .int .i64 0, .string ⟨#[]⟩, .int .i64 0, .bool false]) (cs' := [.int .i64 e9.dot.o, .int .i64 e9.dot.s, d18, .string e9.cart, .int .i64 e9.epoch, .string e9.sku, .int .i64 e9.qty, .bool e9.clears]) 39 _ _ rfl (v := (.agg #[.int .i64 e9.dot.o, .int .i64 e9.dot.s, d18, .string e9.cart, .int .i64 e9.epoch, .string e9.sku, .int .i64 e9.qty, .bool e9.clears])) rfl rfl rfl hB23 (by kernel_rfl) ⟨rfl, rfl, hd19.one, rfl, rfl, rfl, rfl, rfl, trivial⟩ (by simp) rfl ?_
    intro w27 hB28 hc29 hz30
    have hs31 := hc29.size
    replace hb3 := hb3.chg hc29 (by omega)
    replace hO := hO.chg hc29 (by omega)
    replace hJi := hJ _ _ _ _ _ hJi hc29 (by omega)
    replace hd19 := hd19.chg hc29 (by omega)
    refine s_nil rfl ?_
    refine x_seq ?_
    refine c_seq ?_
    refine c_region ?_
    refine s_val (v := (.func (.func f) #[] cap.toArray)) rfl (r_move rfl) (rfl : _ = [_, _, _, _, _, _, _, _, _, _, _, _, _, _, _, _, _, _, _, _, _, _, _, _]) ?_
    refine s_val (v := (.agg #[.int .i64 e9.dot.o, .int .i64 e9.dot.s, d18, .string e9.cart, .int .i64 e9.epoch, .string e9.sku, .int .i64 e9.qty, .bool e9.clears])) rfl (r_load rfl (Ld.row (cs := [.int .i64 e9.dot.o, .int .i64 e9.dot.s, d18, .string e9.cart, .int .i64 e9.epoch, .string e9.sku, .int .i64 e9.qty, .bool e9.clears]) Try.underlying39 rfl (by kernel_rfl) (hB28.range 0 rfl))) (rfl : _ = [_, _, _, _, _, _, _, _, _, _, _, _, _, _, _, _, _, _, _, _, _, _, _, _]) ?_
    refine s_dynb 14 _ _ rfl (f := f) (cap := cap) (vs := (.agg #[.int .i64 e9.dot.o, .int .i64 e9.dot.s, d18, .string e9.cart, .int .i64 e9.epoch, .string e9.sku, .int .i64 e9.qty, .bool e9.clears]) :: cap) rfl hf rfl (hwant (whereL sel s0 (l.take i)).2 _ e9 _ _ hJi hb3 (kEv_cells.2 ⟨_, rfl, hd19⟩)) ?_
    rintro b32 w33 hb32 ⟨hJ34, hc35⟩
    refine norm (rfl : _ = [_, _, _, _, _, _, _, _, _, _, _, _, _, _, _, _, _, _, _, _, _, _, _, _]) ?_
    have hs36 := hc35.size
    replace hb3 := hb3.chg hc35 (by omega)
    replace hO := hO.chg hc35 (by omega)
    replace hd19 := hd19.chg hc35 (by omega)
    replace hB28 := hB28.chg hc35 (by omega)
    have hJi2 := hJ34
    refine s_nil rfl ?_
    refine x_seq ?_
    cases b32 with
    | true =>
      refine c_cond rfl (fun _ => ?_) (fun hh => by cases hh)
      refine c_region ?_
      refine s_val (v := out) rfl (r_move rfl) (rfl : _ = [_, _, _, _, _, _, _, _, _, _, _, _, _, _, _, _, _, _, _, _, _, _, _, _]) ?_
      refine s_val (v := (.agg #[.int .i64 e9.dot.o, .int .i64 e9.dot.s, d18, .string e9.cart, .int .i64 e9.epoch, .string e9.sku, .int .i64 e9.qty, .bool e9.clears])) rfl (r_load rfl (Ld.row (cs := [.int .i64 e9.dot.o, .int .i64 e9.dot.s, d18, .string e9.cart, .int .i64 e9.epoch, .string e9.sku, .int .i64 e9.qty, .bool e9.clears]) Try.underlying39 rfl (by kernel_rfl) (hB28.range 0 rfl))) (rfl : _ = [_, _, _, _, _, _, _, _, _, _, _, _, _, _, _, _, _, _, _, _, _, _, _, _]) ?_
      refine s_call 92 _ _ (by kernel_rfl) rfl rfl (copied_c (e := e9) hd19) ?_
      rintro _ w39 ⟨⟨d37, rfl, hd38⟩, hb40⟩
      refine norm (rfl : _ = [_, _, _, _, _, _, _, _, _, _, _, _, _, _, _, _, _, _, _, _, _, _, _, _]) ?_
      have hc41 := Chg.of_bel hb40
      have hs42 := hc41.size
      replace hb3 := hb3.chg hc41 (by omega)
      replace hO := hO.chg hc41 (by omega)
      replace hd19 := hd19.chg hc41 (by omega)
      replace hB28 := hB28.chg hc41 (by omega)
      replace hJi2 := hJ _ _ _ _ _ hJi2 hc41 (by omega)
      refine s_buildSlice (cs := [.int .i64 e9.dot.o, .int .i64 e9.dot.s, d37, .string e9.cart, .int .i64 e9.epoch, .string e9.sku, .int .i64 e9.qty, .bool e9.clears]) (e := 39) 34 1 _ rfl rfl (by kernel_rfl) ?_
      intro a43 w44 he45 hB46 hc47 hz48
      refine norm (rfl : _ = [_, _, _, _, _, _, _, _, _, _, _, _, _, _, _, _, _, _, _, _, _, _, _, _]) ?_
      have hs49 := hc47.size
      replace hb3 := hb3.chg hc47 (by omega)
      replace hO := hO.chg hc47 (by omega)
      replace hd19 := hd19.chg hc47 (by omega)
      replace hB28 := hB28.chg hc47 (by omega)
      replace hJi2 := hJ _ _ _ _ _ hJi2 hc47 (by omega)
      replace hd38 := hd38.chg hc47 (by omega)
      refine s_appendX kEv (z := (.agg #[.int .i64 0, .int .i64 0, .slice none 0 0, .string ⟨#[]⟩, .int .i64 0, .string ⟨#[]⟩, .int .i64 0, .bool false])) (bytes := 96) (ys := [e9]) (ok2 := Rg 0 w33.heap.size w39.heap.size) Try.underlying34 (by kernel_rfl) rfl (by decide) (by decide) (by decide) rfl hO rfl (flat_one (kEv_cells.2 ⟨_, rfl, hd38⟩)) (had_bx hB46) (by intro b hb hl; unfold Rg at hb; omega) (by have := whereL_len sel (l.take i) s0; have := lim_le hS.lim; simp only [List.length_take, List.length_singleton, lim] at *; omega) ?_
      intro v50 w51 hO52 hc53
      refine norm (rfl : _ = [_, _, _, _, _, _, _, _, _, _, _, _, _, _, _, _, _, _, _, _, _, _, _, _]) ?_
      have hs54 := hc53.size
      replace hb3 := hb3.chg hc53 (by omega)
      replace hd19 := hd19.chg hc53 (by omega)
      replace hB28 := hB28.chg hc53 (by omega)
      replace hJi2 := hJ _ _ _ _ _ hJi2 hc53 (by omega)
      replace hd38 := hd38.chg hc53 (by omega)
      refine s_val (v := v50) rfl (r_assign rfl) (rfl : _ = [_, _, _, _, _, _, _, _, _, _, _, _, _, _, _, _, _, _, _, _, _, _, _, _]) ?_
      refine s_nil rfl ?_
      refine x_block ?_
      refine x_seq ?_
      refine c_region ?_
      refine s_val (v := (.int .i64 ((i : Int) + 1))) rfl (r_add (c := (i : Int) + 1) rfl rfl (i64_in (by omega) (by omega))) (rfl : _ = [_, _, _, _, _, _, _, _, _, _, _, _, _, _, _, _, _, _, _, _, _, _, _, _]) ?_
      refine s_val (v := (.int .i64 ((i : Int) + 1))) rfl (r_move rfl) (rfl : _ = [_, _, _, _, _, _, _, _, _, _, _, _, _, _, _, _, _, _, _, _, _, _, _, _]) ?_
      refine s_nil rfl ?_
      refine x_then ?_
      have ht := take_snoc he13
      have hw2 := whereL_snoc sel e9 (l.take i) s0
      rw [← ht] at hw2
      rw [hb32] at hw2
      refine ⟨_, _, ?_, rfl, (i + 1), v50, w51.heap.size, (fun n_ => ([jk2 0, jk2 1, jk2 2, jk2 3, .pointer (some ⟨a20, 0, none⟩), .bool true, .pointer (some ⟨a10, o11, none⟩), .agg #[.int .i64 e9.dot.o, .int .i64 e9.dot.s, d18, .string e9.cart, .int .i64 e9.epoch, .string e9.sku, .int .i64 e9.qty, .bool e9.clears], .func (.func f) #[] cap.toArray, .agg #[.int .i64 e9.dot.o, .int .i64 e9.dot.s, d18, .string e9.cart, .int .i64 e9.epoch, .string e9.sku, .int .i64 e9.qty, .bool e9.clears], .bool true, out, .agg #[.int .i64 e9.dot.o, .int .i64 e9.dot.s, d18, .string e9.cart, .int .i64 e9.epoch, .string e9.sku, .int .i64 e9.qty, .bool e9.clears], .agg #[.int .i64 e9.dot.o, .int .i64 e9.dot.s, d37, .string e9.cart, .int .i64 e9.epoch, .string e9.sku, .int .i64 e9.qty, .bool e9.clears], .slice (some ⟨a43, 0, none⟩) 1 1, v50, .int .i64 ((i : Int) + 1)] : List Value).getD n_ undef), rfl, rfl, (by omega), hb3, (by omega), (by rw [hw2]; simpa using hO52), (by rw [hw2]; exact hJi2)⟩
      omega
    | false =>
      refine c_cond rfl (fun hh => by cases hh) (fun _ => ?_)
      refine c_skip ?_
      refine x_block ?_
      refine x_seq ?_
      refine c_region ?_
      refine s_val (v := (.int .i64 ((i : Int) + 1))) rfl (r_add (c := (i : Int) + 1) rfl rfl (i64_in (by omega) (by omega))) (rfl : _ = [_, _, _, _, _, _, _, _, _, _, _, _, _, _, _, _, _, _, _, _, _, _, _, _]) ?_
      refine s_val (v := (.int .i64 ((i : Int) + 1))) rfl (r_move rfl) (rfl : _ = [_, _, _, _, _, _, _, _, _, _, _, _, _, _, _, _, _, _, _, _, _, _, _, _]) ?_
      refine s_nil rfl ?_
      refine x_then ?_
      have ht := take_snoc he13
      have hw2 := whereL_snoc sel e9 (l.take i) s0
      rw [← ht] at hw2
      rw [hb32] at hw2
      refine ⟨_, _, ?_, rfl, (i + 1), out, hh, (fun n_ => ([jk2 0, jk2 1, jk2 2, jk2 3, .pointer (some ⟨a20, 0, none⟩), .bool true, .pointer (some ⟨a10, o11, none⟩), .agg #[.int .i64 e9.dot.o, .int .i64 e9.dot.s, d18, .string e9.cart, .int .i64 e9.epoch, .string e9.sku, .int .i64 e9.qty, .bool e9.clears], .func (.func f) #[] cap.toArray, .agg #[.int .i64 e9.dot.o, .int .i64 e9.dot.s, d18, .string e9.cart, .int .i64 e9.epoch, .string e9.sku, .int .i64 e9.qty, .bool e9.clears], .bool false, jk2 11, jk2 12, jk2 13, jk2 14, jk2 15, .int .i64 ((i : Int) + 1)] : List Value).getD n_ undef), rfl, rfl, (by omega), hb3, (by omega), (by rw [hw2]; simpa using hO), (by rw [hw2]; exact hJi2)⟩
      omega
  | false =>
    replace hb8 := bf hb8
    refine c_cond rfl (fun hh => by cases hh) (fun _ => ?_)
    refine c_exit ?_
    refine x_then_exit ?_
    refine x_then_exit ?_
    refine x_block_same ?_
    refine x_seq ?_
    refine c_seq ?_
    refine c_region ?_
    refine s_val (v := out) rfl (r_move rfl) (rfl : _ = [_, _, _, _, _, _, _, _, _, _, _, _, _, _, _, _, _, _, _, _, _, _, _, _]) ?_
    refine s_val (v := out) rfl (r_assign rfl) (rfl : _ = [_, _, _, _, _, _, _, _, _, _, _, _, _, _, _, _, _, _, _, _, _, _, _, _]) ?_
    refine s_nil rfl ?_
    refine x_seq ?_
    refine c_ret ?_
    refine post_ret rfl rfl ?_
    have hi2 : i = l.length := by omega
    subst hi2
    rw [List.take_length] at hO hJi
    exact ⟨hO.sl.rg (by decide) (fun b _ hh => by omega), hJi, hb3⟩

end Go.Proofs.Ytailhdcackkegaa.Wd

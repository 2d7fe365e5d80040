/- slices.IndexFunc, slices.ContainsFunc at lists of vectors; cart.Stand. -/
import Derived.Test.YtailhdcackkegaaC3
import Derived.Test.YtailhdcackkegaaProg
namespace Go.Proofs.Ytailhdcackkegaa.Wd
open Go.RowKit
set_option linter.unusedVariables false
set_option linter.unusedSimpArgs false

def idxL (p : List Int → Bool) : List (List Int) → Nat → Int
  | [], _ => -1
  | x :: l, i => if p x = true then (i : Int) else idxL p l (i + 1)
theorem idxL_any (p : List Int → Bool) : ∀ (l : List (List Int)) (i : Nat), (0 ≤ idxL p l i) ↔ l.any p = true
  | [], i => by simp [idxL]
  | x :: l, i => by
    simp only [idxL, List.any_cons, Bool.or_eq_true]
    split
    · rename_i h; simp [h]
    · rename_i h; rw [idxL_any p l (i + 1)]; simp [h]
def selStand (f : Art → List (List Int)) (s : Unit) (e : Ev) : Bool × Unit := (!((f ⟨e.cart, e.sku⟩).any fun v => hasV v e.dot), ())
def standL (l : List Ev) : List Ev := (whereL (selStand (clearsF l fun _ => [])) () l).1

theorem indexFunc_c {ok : Nat → Prop} {w : World} {v : Value} {xs : List (List Int)} (hS : Sl kInts ok w v xs) {f : Nat} {cap : List Value} (hf : callable Try.prog f = true) (p : List Int → Bool)
    (hwant : ∀ w1 u x ok', Bel w w1 → Sl kInt ok' w1 u x → CallsV Try.prog f (u :: cap).toArray w1 (fun r w2 => r = .bool (p x) ∧ Bel w1 w2)) :
    CallsV Try.prog 114 #[v, (.func (.func f) #[] cap.toArray)] w (fun r w' => r = .int .i64 (idxL p xs 0) ∧ Bel w w') := by
  have hb := Bel.refl w
  replace hS : Sl kInts (Rg w.heap.size 0 0) w v xs := hS.weak (kInts_pos) (fun b _ hl => .inl hl)
  have hSlim := lim_le hS.lim
  refine callsV_of Try.func114 (m := 17) Try.ntmps114 rfl rfl (l := [v, .func (.func f) #[] cap.toArray, undef, undef, undef, undef, undef, undef, undef, undef, undef, undef, undef, undef, undef, undef, undef, undef, undef]) rfl ?_
  refine c_seq ?_
  refine c_region ?_
  refine s_val (v := (.int .i64 0)) rfl (r_assign rfl) (rfl : _ = [_, _, _, _, _, _, _, _, _, _, _, _, _, _, _, _, _, _, _]) ?_
  refine s_nil rfl ?_
  refine x_seq ?_
  refine c_seq ?_
  refine c_seq ?_
  refine c_region ?_
  refine s_val (v := v) rfl (r_move rfl) (rfl : _ = [_, _, _, _, _, _, _, _, _, _, _, _, _, _, _, _, _, _, _]) ?_
  refine s_val (v := (.int .i64 (xs.length : Int))) rfl ((hS.at_ hb).len Try.underlying118 rfl _) (rfl : _ = [_, _, _, _, _, _, _, _, _, _, _, _, _, _, _, _, _, _, _]) ?_
  refine s_val (v := (.int .i64 0)) rfl (r_move rfl) (rfl : _ = [_, _, _, _, _, _, _, _, _, _, _, _, _, _, _, _, _, _, _]) ?_
  refine s_nil rfl ?_
  refine x_seq ?_
  refine c_block ?_
  refine c_loop (fun kk_ fr_ wr1 => ∃ (i : Nat) (jk2 : Nat → Value), kk_ = xs.length - i ∧ fr_ = [v, .func (.func f) #[] cap.toArray, jk2 0, jk2 1, jk2 2, jk2 3, jk2 4, .int .i64 (xs.length : Int), .int .i64 (i : Int), jk2 5, jk2 6, jk2 7, jk2 8, jk2 9, jk2 10, jk2 11, jk2 12, jk2 13, jk2 14] ∧ (i ≤ xs.length) ∧ (idxL p xs 0 = idxL p (xs.drop i) i) ∧ Bel w wr1 ∧ w.heap.size ≤ wr1.heap.size) _ ⟨0, (fun n_ => ([undef, undef, .int .i64 0, undef, v, undef, undef, undef, undef, undef, undef, undef, undef, undef, undef] : List Value).getD n_ undef), rfl, rfl, (Nat.zero_le _), rfl, hb, (Nat.le_refl _)⟩ ?_
  rintro _ _ wr1 ⟨i, jk2, rfl, rfl, hi, ho, hb3, hws4⟩
  have hs5 := hb3.size
  refine c_seq ?_
  refine c_region ?_
  refine s_bool (p := ((i : Int) < (xs.length : Int) : Prop)) rfl (r_lss rfl rfl) decide_eq_true_iff ?_
  intro b6 hb6
  refine norm (rfl : _ = [_, _, _, _, _, _, _, _, _, _, _, _, _, _, _, _, _, _, _]) ?_
  refine s_nil rfl ?_
  refine x_seq ?_
  refine c_seq ?_
  cases b6 with
  | true =>
    replace hb6 := bt hb6
    refine c_cond rfl (fun _ => ?_) (fun hh => by cases hh)
    refine c_skip ?_
    refine x_seq ?_
    refine c_seq ?_
    refine c_block ?_
    refine c_seq ?_
    refine c_region ?_
    refine s_val (v := (.int .i64 (i : Int))) rfl (r_move rfl) (rfl : _ = [_, _, _, _, _, _, _, _, _, _, _, _, _, _, _, _, _, _, _]) ?_
    refine s_val (v := (.int .i64 (i : Int))) rfl (r_assign rfl) (rfl : _ = [_, _, _, _, _, _, _, _, _, _, _, _, _, _, _, _, _, _, _]) ?_
    refine s_nil rfl ?_
    refine x_seq ?_
    refine c_seq ?_
    refine c_region ?_
    refine s_val (v := (.func (.func f) #[] cap.toArray)) rfl (r_move rfl) (rfl : _ = [_, _, _, _, _, _, _, _, _, _, _, _, _, _, _, _, _, _, _]) ?_
    refine s_val (v := v) rfl (r_move rfl) (rfl : _ = [_, _, _, _, _, _, _, _, _, _, _, _, _, _, _, _, _, _, _]) ?_
    refine s_val (v := (.int .i64 (i : Int))) rfl (r_move rfl) (rfl : _ = [_, _, _, _, _, _, _, _, _, _, _, _, _, _, _, _, _, _, _]) ?_
    obtain ⟨e7, a8, o9, c10, he11, hc12, hr13, hk14, hi15⟩ := (hS.at_ hb3).idx (j := (i : Int)) (by first | omega | decide) (by first | omega | simp)
    rw [Int.toNat_natCast] at he11
    obtain ⟨d16, rfl, hd17⟩ := hc12
    refine s_val rfl (hi15 _ _ _ _ _ _ _ (by kernel_rfl) rfl rfl) (rfl : _ = [_, _, _, _, _, _, _, _, _, _, _, _, _, _, _, _, _, _, _]) ?_
    refine s_val (v := d16) rfl (r_load rfl (Ld.one Try.underlying23 rfl (hr13 0 _ rfl))) (rfl : _ = [_, _, _, _, _, _, _, _, _, _, _, _, _, _, _, _, _, _, _]) ?_
    refine s_dynb 11 _ _ rfl (f := f) (cap := cap) (vs := d16 :: cap) rfl hf rfl (hwant wr1 _ e7 _ hb3 hd17) ?_
    intro b18 w19 hb18 hb20
    refine norm (rfl : _ = [_, _, _, _, _, _, _, _, _, _, _, _, _, _, _, _, _, _, _]) ?_
    have hc21 := Chg.of_bel hb20
    have hs22 := hc21.size
    replace hb3 := hb3.chg hc21 (by omega)
    replace hd17 := hd17.chg hc21 (by omega)
    refine s_nil rfl ?_
    refine x_seq ?_
    cases b18 with
    | true =>
      refine c_cond rfl (fun _ => ?_) (fun hh => by cases hh)
      refine c_seq ?_
      refine c_region ?_
      refine s_val (v := (.int .i64 (i : Int))) rfl (r_move rfl) (rfl : _ = [_, _, _, _, _, _, _, _, _, _, _, _, _, _, _, _, _, _, _]) ?_
      refine s_val (v := (.int .i64 (i : Int))) rfl (r_assign rfl) (rfl : _ = [_, _, _, _, _, _, _, _, _, _, _, _, _, _, _, _, _, _, _]) ?_
      refine s_nil rfl ?_
      refine x_seq ?_
      refine c_ret ?_
      refine x_block_ret ?_
      refine x_then_ret ?_
      refine x_then_ret ?_
      refine x_block_ret ?_
      refine x_then_ret ?_
      refine post_ret rfl rfl ?_
      refine ⟨int_eq ?_, hb3⟩
      rw [ho, drop_cons he11, idxL, if_pos hb18]
    | false =>
      refine c_cond rfl (fun hh => by cases hh) (fun _ => ?_)
      refine c_skip ?_
      refine x_block ?_
      refine x_seq ?_
      refine c_region ?_
      refine s_val (v := (.int .i64 ((i : Int) + 1))) rfl (r_add (c := (i : Int) + 1) rfl rfl (i64_in (by omega) (by omega))) (rfl : _ = [_, _, _, _, _, _, _, _, _, _, _, _, _, _, _, _, _, _, _]) ?_
      refine s_val (v := (.int .i64 ((i : Int) + 1))) rfl (r_move rfl) (rfl : _ = [_, _, _, _, _, _, _, _, _, _, _, _, _, _, _, _, _, _, _]) ?_
      refine s_nil rfl ?_
      refine x_then ?_
      refine ⟨_, _, ?_, rfl, (i + 1), (fun n_ => ([jk2 0, jk2 1, jk2 2, .int .i64 (i : Int), jk2 4, .bool true, .int .i64 (i : Int), .func (.func f) #[] cap.toArray, v, .int .i64 (i : Int), .pointer (some ⟨a8, o9, none⟩), d16, .bool false, jk2 13, .int .i64 ((i : Int) + 1)] : List Value).getD n_ undef), rfl, rfl, (by omega), (by rw [ho, drop_cons he11, idxL, if_neg (by rw [hb18]; simp)]), hb3, (by omega)⟩
      omega
  | false =>
    replace hb6 := bf hb6
    refine c_cond rfl (fun hh => by cases hh) (fun _ => ?_)
    refine c_exit ?_
    refine x_then_exit ?_
    refine x_then_exit ?_
    refine x_block_same ?_
    refine x_seq ?_
    refine c_seq ?_
    refine c_region ?_
    refine s_val (v := (.int .i64 (-1))) rfl (r_assign rfl) (rfl : _ = [_, _, _, _, _, _, _, _, _, _, _, _, _, _, _, _, _, _, _]) ?_
    refine s_nil rfl ?_
    refine x_seq ?_
    refine c_ret ?_
    refine post_ret rfl rfl ?_
    refine ⟨int_eq ?_, hb3⟩
    rw [ho, List.drop_eq_nil_of_le (by omega)]; rfl

theorem containsFunc_c {ok : Nat → Prop} {w : World} {v : Value} {xs : List (List Int)} (hS : Sl kInts ok w v xs) {f : Nat} {cap : List Value} (hf : callable Try.prog f = true) (p : List Int → Bool)
    (hwant : ∀ w1 u x ok', Bel w w1 → Sl kInt ok' w1 u x → CallsV Try.prog f (u :: cap).toArray w1 (fun r w2 => r = .bool (p x) ∧ Bel w1 w2)) :
    CallsV Try.prog 86 #[v, (.func (.func f) #[] cap.toArray)] w (fun r w' => r = .bool (xs.any p) ∧ Bel w w') := by
  have hb := Bel.refl w
  replace hS : Sl kInts (Rg w.heap.size 0 0) w v xs := hS.weak (kInts_pos) (fun b _ hl => .inl hl)
  have hSlim := lim_le hS.lim
  refine callsV_of Try.func86 (m := 7) Try.ntmps86 rfl rfl (l := [v, .func (.func f) #[] cap.toArray, undef, undef, undef, undef, undef, undef, undef]) rfl ?_
  refine c_seq ?_
  refine c_region ?_
  refine s_val (v := (.bool false)) rfl (r_assign rfl) (rfl : _ = [_, _, _, _, _, _, _, _, _]) ?_
  refine s_nil rfl ?_
  refine x_seq ?_
  refine c_seq ?_
  refine c_region ?_
  refine s_val (v := v) rfl (r_move rfl) (rfl : _ = [_, _, _, _, _, _, _, _, _]) ?_
  refine s_val (v := (.func (.func f) #[] cap.toArray)) rfl (r_move rfl) (rfl : _ = [_, _, _, _, _, _, _, _, _]) ?_
  refine s_call 114 _ _ (by kernel_rfl) rfl rfl (indexFunc_c (hS.at_ hb) hf p (fun w1 u x ok' hb1 hu => hwant w1 u x ok' (Bel.then hb hb1) hu)) ?_
  rintro _ w1 ⟨rfl, hb2⟩
  refine norm (rfl : _ = [_, _, _, _, _, _, _, _, _]) ?_
  have hc3 := Chg.of_bel hb2
  have hs4 := hc3.size
  replace hb := hb.chg hc3 (by omega)
  refine s_bool (p := (0 ≤ (idxL p xs 0) : Prop)) rfl (r_geq rfl rfl) decide_eq_true_iff ?_
  intro b5 hb5
  refine norm (rfl : _ = [_, _, _, _, _, _, _, _, _]) ?_
  refine s_val (v := (.bool b5)) rfl (r_assign rfl) (rfl : _ = [_, _, _, _, _, _, _, _, _]) ?_
  refine s_nil rfl ?_
  refine x_seq ?_
  refine c_ret ?_
  refine post_ret rfl rfl ?_
  exact ⟨bool_eq (by rw [Bool.eq_iff_iff, hb5, idxL_any]), hb⟩

theorem stand11_c {ok : Nat → Prop} {w : World} {v : Value} {x : List Int} (hS : Sl kInt ok w v x) {be : Nat} {e : Ev} {d : Value} (hE : Bx w be [.int .i64 e.dot.o, .int .i64 e.dot.s, d, .string e.cart, .int .i64 e.epoch, .string e.sku, .int .i64 e.qty, .bool e.clears] 39) :
    CallsV Try.prog 87 #[v, (.pointer (some ⟨be, 0, none⟩))] w (fun r w' => r = .bool (hasV x e.dot) ∧ Bel w w') := by
  have hb := Bel.refl w
  replace hS : Sl kInt (Rg w.heap.size 0 0) w v x := hS.weak (by decide) (fun b _ hl => .inl hl)
  have hSlim := lim_le hS.lim
  refine callsV_of Try.func87 (m := 6) Try.ntmps87 rfl rfl (l := [v, .pointer (some ⟨be, 0, none⟩), undef, undef, undef, undef, undef, undef]) rfl ?_
  refine c_seq ?_
  refine c_region ?_
  refine s_val (v := (.bool false)) rfl (r_assign rfl) (rfl : _ = [_, _, _, _, _, _, _, _]) ?_
  refine s_nil rfl ?_
  refine x_seq ?_
  refine c_seq ?_
  refine c_region ?_
  refine s_val (v := v) rfl (r_move rfl) (rfl : _ = [_, _, _, _, _, _, _, _]) ?_
  refine s_val (v := (.pointer (some ⟨be, 0, none⟩))) rfl (r_field (k := 0) (o := 0) (by kernel_rfl) rfl) (rfl : _ = [_, _, _, _, _, _, _, _]) ?_
  refine s_val (v := (.agg #[.int .i64 e.dot.o, .int .i64 e.dot.s])) rfl (r_load rfl (Ld.row (cs := [.int .i64 e.dot.o, .int .i64 e.dot.s]) Try.underlying37 rfl (by kernel_rfl) (hE.range 0 rfl))) (rfl : _ = [_, _, _, _, _, _, _, _]) ?_
  refine s_callb 25 _ _ (by kernel_rfl) rfl rfl (has_c (hS.at_ hb) e.dot) ?_
  intro b1 w2 hb1 hb3
  refine norm (rfl : _ = [_, _, _, _, _, _, _, _]) ?_
  have hc4 := Chg.of_bel hb3
  have hs5 := hc4.size
  replace hb := hb.chg hc4 (by omega)
  replace hE := hE.chg hc4 (by omega)
  refine s_val (v := (.bool b1)) rfl (r_assign rfl) (rfl : _ = [_, _, _, _, _, _, _, _]) ?_
  refine s_nil rfl ?_
  refine x_seq ?_
  refine c_ret ?_
  refine post_ret rfl rfl ?_
  exact ⟨by subst_vars; rfl, hb⟩

theorem stand1_c {ok : Nat → Prop} {w : World} {e : Ev} {d : Value} (hd : Sl kInt ok w d e.deps) {bs bm a n h : Nat} {L0 : List (Art × Value)} {f : Art → List (List Int)} (hX : Bx w bs [.map (some bm)] 115) (hM : Mp (fun d : Art => Value.agg #[.string d.cart, .string d.sku]) kRaw (Rg 0 0 0) w bm L0) (hC : Clr a n h 23 w L0 f) :
    CallsV Try.prog 85 #[(.agg #[.int .i64 e.dot.o, .int .i64 e.dot.s, d, .string e.cart, .int .i64 e.epoch, .string e.sku, .int .i64 e.qty, .bool e.clears]), (.pointer (some ⟨bs, 0, none⟩))] w (fun r w' => r = .bool (selStand f () e).1 ∧ Bel w w') := by
  have hb := Bel.refl w
  replace hd : Sl kInt (Rg w.heap.size 0 0) w d e.deps := hd.weak (by decide) (fun b _ hl => .inl hl)
  have hdlim := lim_le hd.lim
  have hXl := hX.lt
  have hMl := hM.lt
  have hCl := hC.le
  refine callsV_of Try.func85 (m := 12) Try.ntmps85 rfl rfl (l := [.agg #[.int .i64 e.dot.o, .int .i64 e.dot.s, d, .string e.cart, .int .i64 e.epoch, .string e.sku, .int .i64 e.qty, .bool e.clears], .pointer (some ⟨bs, 0, none⟩), undef, undef, undef, undef, undef, undef, undef, undef, undef, undef, undef, undef]) rfl ?_
  refine c_seq ?_
  refine c_region ?_
  refine s_box (v := (.agg #[.int .i64 e.dot.o, .int .i64 e.dot.s, d, .string e.cart, .int .i64 e.epoch, .string e.sku, .int .i64 e.qty, .bool e.clears])) 39 _ rfl rfl ?_
  intro a1 w2 he3 hB4 hc5 hz6
  refine norm (rfl : _ = [_, _, _, _, _, _, _, _, _, _, _, _, _, _]) ?_
  have hs7 := hc5.size
  replace hb := hb.chg hc5 (by omega)
  replace hX := hX.chg hc5 (by omega)
  replace hM := hM.chgR hc5 (by omega)
  replace hC := hC.chg hc5 (by omega)
  refine s_val (v := (.bool false)) rfl (r_assign rfl) (rfl : _ = [_, _, _, _, _, _, _, _, _, _, _, _, _, _]) ?_
  refine s_nil rfl ?_
  refine x_seq ?_
  refine c_seq ?_
  refine c_region ?_
  refine s_val (v := (.map (some bm))) rfl (r_load rfl (Ld.one Try.underlying115 rfl (hX.cell (i := 0) rfl))) (rfl : _ = [_, _, _, _, _, _, _, _, _, _, _, _, _, _]) ?_
  refine s_val (v := (.pointer (some ⟨a1, 3, none⟩))) rfl (r_field (k := 3) (o := 0) (by kernel_rfl) rfl) (rfl : _ = [_, _, _, _, _, _, _, _, _, _, _, _, _, _]) ?_
  refine s_val (v := (.string e.cart)) rfl (r_load rfl (Ld.one Try.underlying9 rfl (hB4.cell (i := 3) rfl))) (rfl : _ = [_, _, _, _, _, _, _, _, _, _, _, _, _, _]) ?_
  refine s_val (v := (.pointer (some ⟨a1, 5, none⟩))) rfl (r_field (k := 5) (o := 0) (by kernel_rfl) rfl) (rfl : _ = [_, _, _, _, _, _, _, _, _, _, _, _, _, _]) ?_
  refine s_val (v := (.string e.sku)) rfl (r_load rfl (Ld.one Try.underlying9 rfl (hB4.cell (i := 5) rfl))) (rfl : _ = [_, _, _, _, _, _, _, _, _, _, _, _, _, _]) ?_
  refine s_val rfl (r_build (v := (.agg #[.string e.cart, .string e.sku])) rfl (by kernel_rfl)) (rfl : _ = [_, _, _, _, _, _, _, _, _, _, _, _, _, _]) ?_
  obtain ⟨v8, hv9, hk10⟩ := hM.look keyOk_Art Try.underlying115 (z := .slice none 0 0) (zb := (.slice none 0 0)) (by kernel_rfl) ⟨rfl, rfl⟩ ⟨e.cart, e.sku⟩
  obtain rfl : v8 = ((getA ⟨e.cart, e.sku⟩ L0).getD (.slice none 0 0)) := (List.cons.inj (show [v8] = [((getA ⟨e.cart, e.sku⟩ L0).getD (.slice none 0 0))] from hv9.1)).1
  refine s_val rfl (hk10 _ _ _ rfl rfl) (rfl : _ = [_, _, _, _, _, _, _, _, _, _, _, _, _, _]) ?_
  have hS11 := hC.sl ⟨e.cart, e.sku⟩
  refine s_val (v := (.func (.func 87) #[] #[(.pointer (some ⟨a1, 0, none⟩))])) rfl (r_makeFunc rfl) (rfl : _ = [_, _, _, _, _, _, _, _, _, _, _, _, _, _]) ?_
  refine s_callb 86 _ _ (by kernel_rfl) rfl rfl (containsFunc_c (f := 87) (cap := [.pointer (some ⟨a1, 0, none⟩)]) hS11 (by kernel_rfl) (fun v => hasV v e.dot) (fun w1 u x ok' hb1 hu => stand11_c hu (hB4.below hb1))) ?_
  intro b12 w13 hb12 hb14
  refine norm (rfl : _ = [_, _, _, _, _, _, _, _, _, _, _, _, _, _]) ?_
  have hc15 := Chg.of_bel hb14
  have hs16 := hc15.size
  replace hb := hb.chg hc15 (by omega)
  replace hX := hX.chg hc15 (by omega)
  replace hM := hM.chgR hc15 (by omega)
  replace hC := hC.chg hc15 (by omega)
  replace hB4 := hB4.chg hc15 (by omega)
  replace hS11 := hS11.chg hc15 (by omega)
  refine s_val rfl (r_not rfl rfl) (rfl : _ = [_, _, _, _, _, _, _, _, _, _, _, _, _, _]) ?_
  refine s_val (v := (.bool (!b12))) rfl (r_assign rfl) (rfl : _ = [_, _, _, _, _, _, _, _, _, _, _, _, _, _]) ?_
  refine s_nil rfl ?_
  refine x_seq ?_
  refine c_ret ?_
  refine post_ret rfl rfl ?_
  exact ⟨by subst_vars; rfl, hb⟩

theorem stand_c {ok : Nat → Prop} {w : World} {v : Value} {l : List Ev} (hS : Sl kEv ok w v l) :
    CallsV Try.prog 53 #[v] w (fun r w' => Sl kEv (Rg 0 w.heap.size w'.heap.size) w' r (standL l) ∧ Bel w w') := by
  have hb := Bel.refl w
  replace hS : Sl kEv (Rg w.heap.size 0 0) w v l := hS.weak (by decide) (fun b _ hl => .inl hl)
  have hSlim := lim_le hS.lim
  refine callsV_of Try.func53 (m := 8) Try.ntmps53 rfl rfl (l := [v, undef, undef, undef, undef, undef, undef, undef, undef]) rfl ?_
  refine c_seq ?_
  refine c_region ?_
  refine s_val (v := (.slice none 0 0)) rfl (r_assign rfl) (rfl : _ = [_, _, _, _, _, _, _, _, _]) ?_
  refine s_nil rfl ?_
  refine x_seq ?_
  refine c_seq ?_
  refine c_region ?_
  refine s_val (v := v) rfl (r_move rfl) (rfl : _ = [_, _, _, _, _, _, _, _, _]) ?_
  refine s_call 84 _ _ (by kernel_rfl) rfl rfl (clears_c (hS.at_ hb)) ?_
  rintro _ w3 ⟨m1, L2, rfl, hlo4, hhi5, hM6, hC7, hb8⟩
  refine norm (rfl : _ = [_, _, _, _, _, _, _, _, _]) ?_
  have hc9 := Chg.of_bel hb8
  have hs10 := hc9.size
  replace hb := hb.chg hc9 (by omega)
  refine s_alloc (z := (.map none)) 115 (by kernel_rfl) rfl ?_
  intro a11 w12 he13 hB14 hc15 hz16
  refine norm (rfl : _ = [_, _, _, _, _, _, _, _, _]) ?_
  have hs17 := hc15.size
  replace hb := hb.chg hc15 (by omega)
  replace hM6 := hM6.chgR hc15 (by omega)
  replace hC7 := hC7.chg hc15 (by omega)
  refine s_store (b := a11) (o := 0) (vs := [.map (some m1)]) (cs := [.map none]) (cs' := [.map (some m1)]) 115 _ _ rfl (v := (.map (some m1))) rfl rfl rfl hB14 (by kernel_rfl) ⟨rfl, trivial⟩ (by simp) rfl ?_
  intro w18 hB19 hc20 hz21
  have hs22 := hc20.size
  replace hb := hb.chg hc20 (by omega)
  replace hM6 := hM6.chgR hc20 (by omega)
  replace hC7 := hC7.chg hc20 (by omega)
  refine s_nil rfl ?_
  refine x_seq ?_
  refine c_seq ?_
  refine c_region ?_
  refine s_val (v := v) rfl (r_move rfl) (rfl : _ = [_, _, _, _, _, _, _, _, _]) ?_
  refine s_val (v := (.func (.func 85) #[] #[(.pointer (some ⟨a11, 0, none⟩))])) rfl (r_makeFunc rfl) (rfl : _ = [_, _, _, _, _, _, _, _, _]) ?_
  refine s_call 58 _ _ (by kernel_rfl) rfl rfl (where_c (f := 85) (cap := [.pointer (some ⟨a11, 0, none⟩)]) (hS.at_ hb) (n := w.heap.size) (h := (a11 + 1)) (by omega) (by omega) (fun b hb hl => by unfold Rg at hb; omega) (by kernel_rfl) (selStand (clearsF l (fun _ => []))) () (fun _ w_ => Bx w_ a11 [.map (some m1)] 115 ∧ Mp (fun d : Art => Value.agg #[.string d.cart, .string d.sku]) kRaw (Rg 0 0 0) w_ m1 L2 ∧ Clr w.heap.size (m1 + 1) w3.heap.size 23 w_ L2 (clearsF l (fun _ => []))) ⟨hB19, hM6, hC7⟩ (fun s w1 w2 p q hj hc hpq => ⟨hj.1.chg hc (by omega), hj.2.1.chgR hc (by omega), hj.2.2.chg hc (by omega)⟩) (fun s w1 e cs ok' hj hc hrd => by obtain ⟨d, rfl, hd⟩ := kEv_cells.1 hrd; exact (stand1_c hd hj.1 hj.2.1 hj.2.2).mono (fun r w2 hh => ⟨hh.1, ⟨hj.1.below hh.2, hj.2.1.chgR (Chg.of_bel hh.2) (by omega), hj.2.2.chg (Chg.of_bel hh.2) (by omega)⟩, (Chg.of_bel hh.2).wide (by omega)⟩))) ?_
  rintro v23 w24 ⟨hSw, hJ25, hc26⟩
  refine norm (rfl : _ = [_, _, _, _, _, _, _, _, _]) ?_
  have hs27 := hc26.size
  replace hb := hb.chg hc26 (by omega)
  refine s_val (v := v23) rfl (r_assign rfl) (rfl : _ = [_, _, _, _, _, _, _, _, _]) ?_
  refine s_nil rfl ?_
  refine x_seq ?_
  refine c_ret ?_
  refine post_ret rfl rfl ?_
  exact ⟨hSw.rg (by decide) (fun b hl hh => by omega), hb⟩

end Go.Proofs.Ytailhdcackkegaa.Wd

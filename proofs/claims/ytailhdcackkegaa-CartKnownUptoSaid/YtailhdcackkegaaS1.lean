/- cmp, equality of vectors, seals, entries, ballots. -/
import Derived.Test.YtailhdcackkegaaEs
import Derived.Test.YtailhdcackkegaaQ1
import Derived.Test.YtailhdcackkegaaProg
namespace Go.Proofs.Ytailhdcackkegaa.Wd
open Go.RowKit
set_option linter.unusedVariables false
set_option linter.unusedSimpArgs false

def cmpI (x y : Int) : Int := if x < y then -1 else if y < x then 1 else 0
def orL : List Int → Int
  | [] => 0
  | x :: l => if x ≠ 0 then x else orL l
def cmpBal (a b : Bal) : Int := if a.r < b.r then -1 else if b.r < a.r then 1 else cmpI a.n b.n
theorem or_cmp (a b : Bal) : orL [cmpI a.r b.r, cmpI a.n b.n] = cmpBal a b := by
  unfold cmpBal orL orL orL cmpI
  repeat' split
  all_goals omega

theorem isNaN_c {w : World} (x : Int) :
    CallsV Try.prog 101 #[(.int .i64 x)] w (fun r w' => r = .bool false ∧ Bel w w') := by
  have hb := Bel.refl w
  refine callsV_of Try.func101 (m := 5) Try.ntmps101 rfl rfl (l := [.int .i64 x, undef, undef, undef, undef, undef]) rfl ?_
  refine c_seq ?_
  refine c_region ?_
  refine s_val (v := (.bool false)) rfl (r_assign rfl) (rfl : _ = [_, _, _, _, _, _]) ?_
  refine s_nil rfl ?_
  refine x_seq ?_
  refine c_seq ?_
  refine c_region ?_
  refine s_val (v := (.int .i64 x)) rfl (r_move rfl) (rfl : _ = [_, _, _, _, _, _]) ?_
  refine s_val (v := (.int .i64 x)) rfl (r_move rfl) (rfl : _ = [_, _, _, _, _, _]) ?_
  refine s_bool (p := (x ≠ x : Prop)) rfl (r_nei rfl rfl) nei_iff ?_
  intro b1 hb1
  refine norm (rfl : _ = [_, _, _, _, _, _]) ?_
  refine s_val (v := (.bool b1)) rfl (r_assign rfl) (rfl : _ = [_, _, _, _, _, _]) ?_
  refine s_nil rfl ?_
  refine x_seq ?_
  refine c_ret ?_
  refine post_ret rfl rfl ?_
  have : b1 = false := by
    cases hh : b1
    · rfl
    · exact absurd rfl (hb1.1 hh)
  subst this
  exact ⟨rfl, hb⟩

theorem compare_c {w : World} (x y : Int) :
    CallsV Try.prog 77 #[(.int .i64 x), (.int .i64 y)] w (fun r w' => r = .int .i64 (cmpI x y) ∧ Bel w w') := by
  have hb := Bel.refl w
  refine callsV_of Try.func77 (m := 18) Try.ntmps77 rfl rfl (l := [.int .i64 x, .int .i64 y, undef, undef, undef, undef, undef, undef, undef, undef, undef, undef, undef, undef, undef, undef, undef, undef, undef, undef]) rfl ?_
  refine c_seq ?_
  refine c_region ?_
  refine s_val (v := (.int .i64 0)) rfl (r_assign rfl) (rfl : _ = [_, _, _, _, _, _, _, _, _, _, _, _, _, _, _, _, _, _, _, _]) ?_
  refine s_nil rfl ?_
  refine x_seq ?_
  refine c_seq ?_
  refine c_region ?_
  refine s_val (v := (.int .i64 x)) rfl (r_move rfl) (rfl : _ = [_, _, _, _, _, _, _, _, _, _, _, _, _, _, _, _, _, _, _, _]) ?_
  refine s_call 101 _ _ (by kernel_rfl) rfl rfl (isNaN_c x) ?_
  rintro _ w1 ⟨rfl, hb2⟩
  refine norm (rfl : _ = [_, _, _, _, _, _, _, _, _, _, _, _, _, _, _, _, _, _, _, _]) ?_
  have hc3 := Chg.of_bel hb2
  have hs4 := hc3.size
  replace hb := hb.chg hc3 (by omega)
  refine s_val (v := (.bool false)) rfl (r_assign rfl) (rfl : _ = [_, _, _, _, _, _, _, _, _, _, _, _, _, _, _, _, _, _, _, _]) ?_
  refine s_nil rfl ?_
  refine x_seq ?_
  refine c_seq ?_
  refine c_region ?_
  refine s_val (v := (.int .i64 y)) rfl (r_move rfl) (rfl : _ = [_, _, _, _, _, _, _, _, _, _, _, _, _, _, _, _, _, _, _, _]) ?_
  refine s_call 101 _ _ (by kernel_rfl) rfl rfl (isNaN_c y) ?_
  rintro _ w5 ⟨rfl, hb6⟩
  refine norm (rfl : _ = [_, _, _, _, _, _, _, _, _, _, _, _, _, _, _, _, _, _, _, _]) ?_
  have hc7 := Chg.of_bel hb6
  have hs8 := hc7.size
  replace hb := hb.chg hc7 (by omega)
  refine s_val (v := (.bool false)) rfl (r_assign rfl) (rfl : _ = [_, _, _, _, _, _, _, _, _, _, _, _, _, _, _, _, _, _, _, _]) ?_
  refine s_nil rfl ?_
  refine x_seq ?_
  refine c_seq ?_
  refine c_seq ?_
  refine c_region ?_
  refine s_val (v := (.bool false)) rfl (r_move rfl) (rfl : _ = [_, _, _, _, _, _, _, _, _, _, _, _, _, _, _, _, _, _, _, _]) ?_
  refine s_nil rfl ?_
  refine x_seq ?_
  refine c_cond rfl (fun hh => by cases hh) (fun _ => ?_)
  refine c_skip ?_
  refine x_seq ?_
  refine c_seq ?_
  refine c_seq ?_
  refine c_region ?_
  refine s_val (v := (.bool false)) rfl (r_move rfl) (rfl : _ = [_, _, _, _, _, _, _, _, _, _, _, _, _, _, _, _, _, _, _, _]) ?_
  refine s_nil rfl ?_
  refine x_seq ?_
  refine c_cond rfl (fun hh => by cases hh) (fun _ => ?_)
  refine c_skip ?_
  refine x_seq ?_
  refine c_seq ?_
  refine c_seq ?_
  refine c_region ?_
  refine s_val (v := (.int .i64 x)) rfl (r_move rfl) (rfl : _ = [_, _, _, _, _, _, _, _, _, _, _, _, _, _, _, _, _, _, _, _]) ?_
  refine s_val (v := (.int .i64 y)) rfl (r_move rfl) (rfl : _ = [_, _, _, _, _, _, _, _, _, _, _, _, _, _, _, _, _, _, _, _]) ?_
  refine s_bool (p := (x < y : Prop)) rfl (r_lss rfl rfl) decide_eq_true_iff ?_
  intro b9 hb9
  refine norm (rfl : _ = [_, _, _, _, _, _, _, _, _, _, _, _, _, _, _, _, _, _, _, _]) ?_
  refine s_nil rfl ?_
  refine x_seq ?_
  cases b9 with
  | true =>
    replace hb9 := bt hb9
    refine c_cond rfl (fun _ => ?_) (fun hh => by cases hh)
    refine c_seq ?_
    refine c_region ?_
    refine s_val (v := (.int .i64 (-1))) rfl (r_assign rfl) (rfl : _ = [_, _, _, _, _, _, _, _, _, _, _, _, _, _, _, _, _, _, _, _]) ?_
    refine s_nil rfl ?_
    refine x_seq ?_
    refine c_ret ?_
    refine x_then_ret ?_
    refine post_ret rfl rfl ?_
    exact ⟨int_eq (by unfold cmpI; (repeat' split) <;> omega), hb⟩
  | false =>
    replace hb9 := bf hb9
    refine c_cond rfl (fun hh => by cases hh) (fun _ => ?_)
    refine c_skip ?_
    refine x_seq ?_
    refine c_seq ?_
    refine c_seq ?_
    refine c_region ?_
    refine s_val (v := (.int .i64 x)) rfl (r_move rfl) (rfl : _ = [_, _, _, _, _, _, _, _, _, _, _, _, _, _, _, _, _, _, _, _]) ?_
    refine s_val (v := (.int .i64 y)) rfl (r_move rfl) (rfl : _ = [_, _, _, _, _, _, _, _, _, _, _, _, _, _, _, _, _, _, _, _]) ?_
    refine s_bool (p := (y < x : Prop)) rfl (r_gtr rfl rfl) decide_eq_true_iff ?_
    intro b10 hb10
    refine norm (rfl : _ = [_, _, _, _, _, _, _, _, _, _, _, _, _, _, _, _, _, _, _, _]) ?_
    refine s_nil rfl ?_
    refine x_seq ?_
    cases b10 with
    | true =>
      replace hb10 := bt hb10
      refine c_cond rfl (fun _ => ?_) (fun hh => by cases hh)
      refine c_seq ?_
      refine c_region ?_
      refine s_val (v := (.int .i64 1)) rfl (r_assign rfl) (rfl : _ = [_, _, _, _, _, _, _, _, _, _, _, _, _, _, _, _, _, _, _, _]) ?_
      refine s_nil rfl ?_
      refine x_seq ?_
      refine c_ret ?_
      refine x_then_ret ?_
      refine post_ret rfl rfl ?_
      exact ⟨int_eq (by unfold cmpI; (repeat' split) <;> omega), hb⟩
    | false =>
      replace hb10 := bf hb10
      refine c_cond rfl (fun hh => by cases hh) (fun _ => ?_)
      refine c_skip ?_
      refine x_seq ?_
      refine c_seq ?_
      refine c_region ?_
      refine s_val (v := (.int .i64 0)) rfl (r_assign rfl) (rfl : _ = [_, _, _, _, _, _, _, _, _, _, _, _, _, _, _, _, _, _, _, _]) ?_
      refine s_nil rfl ?_
      refine x_seq ?_
      refine c_ret ?_
      refine post_ret rfl rfl ?_
      exact ⟨int_eq (by unfold cmpI; (repeat' split) <;> omega), hb⟩

theorem or_c {ok : Nat → Prop} {w : World} {v : Value} {xs : List Int} (hS : Sl kInt ok w v xs) :
    CallsV Try.prog 76 #[v] w (fun r w' => r = .int .i64 (orL xs) ∧ Bel w w') := by
  have hb := Bel.refl w
  replace hS : Sl kInt (Rg w.heap.size 0 0) w v xs := hS.weak (by decide) (fun b _ hl => .inl hl)
  have hSlim := lim_le hS.lim
  refine callsV_of Try.func76 (m := 17) Try.ntmps76 rfl rfl (l := [v, undef, undef, undef, undef, undef, undef, undef, undef, undef, undef, undef, undef, undef, undef, undef, undef, undef]) rfl ?_
  refine c_seq ?_
  refine c_region ?_
  refine s_val (v := (.int .i64 0)) rfl (r_assign rfl) (rfl : _ = [_, _, _, _, _, _, _, _, _, _, _, _, _, _, _, _, _, _]) ?_
  refine s_nil rfl ?_
  refine x_seq ?_
  refine c_seq ?_
  refine c_region ?_
  refine s_val (v := (.int .i64 0)) rfl (r_assign rfl) (rfl : _ = [_, _, _, _, _, _, _, _, _, _, _, _, _, _, _, _, _, _]) ?_
  refine s_nil rfl ?_
  refine x_seq ?_
  refine c_seq ?_
  refine c_seq ?_
  refine c_region ?_
  refine s_val (v := v) rfl (r_move rfl) (rfl : _ = [_, _, _, _, _, _, _, _, _, _, _, _, _, _, _, _, _, _]) ?_
  refine s_val (v := (.int .i64 (xs.length : Int))) rfl ((hS.at_ hb).len Try.underlying23 rfl _) (rfl : _ = [_, _, _, _, _, _, _, _, _, _, _, _, _, _, _, _, _, _]) ?_
  refine s_val (v := (.int .i64 0)) rfl (r_move rfl) (rfl : _ = [_, _, _, _, _, _, _, _, _, _, _, _, _, _, _, _, _, _]) ?_
  refine s_nil rfl ?_
  refine x_seq ?_
  refine c_block ?_
  refine c_loop (fun kk_ fr_ wr1 => ∃ (i : Nat) (jk2 : Nat → Value), kk_ = xs.length - i ∧ fr_ = [jk2 0, jk2 1, jk2 2, .int .i64 0, jk2 3, jk2 4, v, .int .i64 (xs.length : Int), .int .i64 (i : Int), jk2 5, jk2 6, jk2 7, jk2 8, jk2 9, jk2 10, jk2 11, jk2 12, undef] ∧ (i ≤ xs.length) ∧ (orL xs = orL (xs.drop i)) ∧ Bel w wr1 ∧ w.heap.size ≤ wr1.heap.size) _ ⟨0, (fun n_ => ([v, undef, .int .i64 0, undef, undef, undef, undef, undef, undef, undef, undef, undef, undef] : List Value).getD n_ undef), rfl, rfl, (Nat.zero_le _), rfl, hb, (Nat.le_refl _)⟩ ?_
  rintro _ _ wr1 ⟨i, jk2, rfl, rfl, hi, ho, hb3, hws4⟩
  have hs5 := hb3.size
  refine c_seq ?_
  refine c_region ?_
  refine s_bool (p := ((i : Int) < (xs.length : Int) : Prop)) rfl (r_lss rfl rfl) decide_eq_true_iff ?_
  intro b6 hb6
  refine norm (rfl : _ = [_, _, _, _, _, _, _, _, _, _, _, _, _, _, _, _, _, _]) ?_
  refine s_nil rfl ?_
  refine x_seq ?_
  refine c_seq ?_
  cases b6 with
  | true =>
    replace hb6 := bt hb6
    refine c_cond rfl (fun _ => ?_) (fun hh => by cases hh)
    refine c_skip ?_
    refine x_seq ?_
    refine c_seq ?_
    refine c_block ?_
    refine c_seq ?_
    refine c_region ?_
    obtain ⟨e7, a8, o9, c10, he11, hc12, hr13, hk14, hi15⟩ := (hS.at_ hb3).idx (j := (i : Int)) (by first | omega | decide) (by first | omega | simp)
    rw [Int.toNat_natCast] at he11
    obtain rfl : c10 = [.int .i64 e7] := hc12
    refine s_val rfl (hi15 _ _ _ _ _ _ _ (by kernel_rfl) rfl rfl) (rfl : _ = [_, _, _, _, _, _, _, _, _, _, _, _, _, _, _, _, _, _]) ?_
    refine s_val (v := (.int .i64 e7)) rfl (r_load rfl (Ld.one Try.underlying3 rfl (hr13 0 _ rfl))) (rfl : _ = [_, _, _, _, _, _, _, _, _, _, _, _, _, _, _, _, _, _]) ?_
    refine s_val (v := (.int .i64 e7)) rfl (r_assign rfl) (rfl : _ = [_, _, _, _, _, _, _, _, _, _, _, _, _, _, _, _, _, _]) ?_
    refine s_nil rfl ?_
    refine x_seq ?_
    refine c_seq ?_
    refine c_region ?_
    refine s_val (v := (.int .i64 e7)) rfl (r_move rfl) (rfl : _ = [_, _, _, _, _, _, _, _, _, _, _, _, _, _, _, _, _, _]) ?_
    refine s_val (v := (.int .i64 0)) rfl (r_move rfl) (rfl : _ = [_, _, _, _, _, _, _, _, _, _, _, _, _, _, _, _, _, _]) ?_
    refine s_bool (p := (e7 ≠ 0 : Prop)) rfl (r_nei rfl rfl) nei_iff ?_
    intro b16 hb16
    refine norm (rfl : _ = [_, _, _, _, _, _, _, _, _, _, _, _, _, _, _, _, _, _]) ?_
    refine s_nil rfl ?_
    refine x_seq ?_
    cases b16 with
    | true =>
      replace hb16 := bt hb16
      refine c_cond rfl (fun _ => ?_) (fun hh => by cases hh)
      refine c_seq ?_
      refine c_region ?_
      refine s_val (v := (.int .i64 e7)) rfl (r_move rfl) (rfl : _ = [_, _, _, _, _, _, _, _, _, _, _, _, _, _, _, _, _, _]) ?_
      refine s_val (v := (.int .i64 e7)) rfl (r_assign rfl) (rfl : _ = [_, _, _, _, _, _, _, _, _, _, _, _, _, _, _, _, _, _]) ?_
      refine s_nil rfl ?_
      refine x_seq ?_
      refine c_ret ?_
      refine x_block_ret ?_
      refine x_then_ret ?_
      refine x_then_ret ?_
      refine x_block_ret ?_
      refine x_then_ret ?_
      refine post_ret rfl rfl ?_
      refine ⟨int_eq ?_, hb3⟩
      rw [ho, drop_cons he11, orL, if_pos (by assumption)]
    | false =>
      replace hb16 := bf hb16
      refine c_cond rfl (fun hh => by cases hh) (fun _ => ?_)
      refine c_skip ?_
      refine x_block ?_
      refine x_seq ?_
      refine c_region ?_
      refine s_val (v := (.int .i64 ((i : Int) + 1))) rfl (r_add (c := (i : Int) + 1) rfl rfl (i64_in (by omega) (by omega))) (rfl : _ = [_, _, _, _, _, _, _, _, _, _, _, _, _, _, _, _, _, _]) ?_
      refine s_val (v := (.int .i64 ((i : Int) + 1))) rfl (r_move rfl) (rfl : _ = [_, _, _, _, _, _, _, _, _, _, _, _, _, _, _, _, _, _]) ?_
      refine s_nil rfl ?_
      refine x_then ?_
      refine ⟨_, _, ?_, rfl, (i + 1), (fun n_ => ([jk2 0, jk2 1, jk2 2, jk2 3, .int .i64 e7, .bool true, .pointer (some ⟨a8, o9, none⟩), .int .i64 e7, .int .i64 e7, .int .i64 0, .bool false, jk2 11, .int .i64 ((i : Int) + 1)] : List Value).getD n_ undef), rfl, rfl, (by omega), (by rw [ho, drop_cons he11, orL, if_neg (by assumption)]), hb3, (by omega)⟩
      omega
  | false =>
    replace hb6 := bf hb6
    refine c_cond rfl (fun hh => by cases hh) (fun _ => ?_)
    refine c_exit ?_
    refine x_then_exit ?_
    refine x_then_exit ?_
    refine x_block_same ?_
    refine x_seq ?_
    refine c_seq ?_
    refine c_region ?_
    refine s_val (v := (.int .i64 0)) rfl (r_move rfl) (rfl : _ = [_, _, _, _, _, _, _, _, _, _, _, _, _, _, _, _, _, _]) ?_
    refine s_val (v := (.int .i64 0)) rfl (r_assign rfl) (rfl : _ = [_, _, _, _, _, _, _, _, _, _, _, _, _, _, _, _, _, _]) ?_
    refine s_nil rfl ?_
    refine x_seq ?_
    refine c_ret ?_
    refine post_ret rfl rfl ?_
    refine ⟨int_eq ?_, hb3⟩
    rw [ho, List.drop_eq_nil_of_le (by omega)]; rfl

theorem cmpb_c {w : World} (a b : Bal) :
    CallsV Try.prog 43 #[(.agg #[.int .i64 a.r, .int .i64 a.n]), (.agg #[.int .i64 b.r, .int .i64 b.n])] w (fun r w' => r = .int .i64 (cmpBal a b) ∧ Bel w w') := by
  have hb := Bel.refl w
  refine callsV_of Try.func43 (m := 15) Try.ntmps43 rfl rfl (l := [.agg #[.int .i64 a.r, .int .i64 a.n], .agg #[.int .i64 b.r, .int .i64 b.n], undef, undef, undef, undef, undef, undef, undef, undef, undef, undef, undef, undef, undef, undef, undef]) rfl ?_
  refine c_seq ?_
  refine c_region ?_
  refine s_box (v := (.agg #[.int .i64 a.r, .int .i64 a.n])) 73 _ rfl rfl ?_
  intro a1 w2 he3 hB4 hc5 hz6
  refine norm (rfl : _ = [_, _, _, _, _, _, _, _, _, _, _, _, _, _, _, _, _]) ?_
  have hs7 := hc5.size
  replace hb := hb.chg hc5 (by omega)
  refine s_box (v := (.agg #[.int .i64 b.r, .int .i64 b.n])) 73 _ rfl rfl ?_
  intro a8 w9 he10 hB11 hc12 hz13
  refine norm (rfl : _ = [_, _, _, _, _, _, _, _, _, _, _, _, _, _, _, _, _]) ?_
  have hs14 := hc12.size
  replace hb := hb.chg hc12 (by omega)
  replace hB4 := hB4.chg hc12 (by omega)
  refine s_val (v := (.int .i64 0)) rfl (r_assign rfl) (rfl : _ = [_, _, _, _, _, _, _, _, _, _, _, _, _, _, _, _, _]) ?_
  refine s_nil rfl ?_
  refine x_seq ?_
  refine c_seq ?_
  refine c_held (by kernel_rfl) (by kernel_rfl) rfl rfl ?_
  intro w15 hb16 hz17
  have hc19 := Chg.of_bel hb16
  have hs20 := hc19.size
  replace hb := hb.chg hc19 (by omega)
  replace hB4 := hB4.chg hc19 (by omega)
  replace hB11 := hB11.chg hc19 (by omega)
  have hr18 := Bel.refl w15
  have hbz21 := hb
  have hBz22 := hB4
  have hBz23 := hB11
  refine h_take 0 rfl (by kernel_rfl) (rfl : _ = [true, false, false, false, false, false, false, false, false, false, false, false, false]) ?_
  refine h_val (v := (.pointer (some ⟨a1, 0, none⟩))) rfl (fun w' hC => r_field (k := 0) (o := 0) (by kernel_rfl) rfl) (rfl : _ = [_, _, _, _, _, _, _, _, _, _, _, _, _, _, _, _, _]) ?_
  refine h_take 1 rfl (by kernel_rfl) (rfl : _ = [true, true, false, false, false, false, false, false, false, false, false, false, false]) ?_
  refine h_val (v := (.int .i64 a.r)) rfl (fun w' hC => r_load rfl (Ld.one Try.underlying3 rfl ((hBz22.below hC).cell (i := 0) rfl))) (rfl : _ = [_, _, _, _, _, _, _, _, _, _, _, _, _, _, _, _, _]) ?_
  refine h_take 2 rfl (by kernel_rfl) (rfl : _ = [true, true, true, false, false, false, false, false, false, false, false, false, false]) ?_
  refine h_val (v := (.pointer (some ⟨a8, 0, none⟩))) rfl (fun w' hC => r_field (k := 0) (o := 0) (by kernel_rfl) rfl) (rfl : _ = [_, _, _, _, _, _, _, _, _, _, _, _, _, _, _, _, _]) ?_
  refine h_take 3 rfl (by kernel_rfl) (rfl : _ = [true, true, true, true, false, false, false, false, false, false, false, false, false]) ?_
  refine h_val (v := (.int .i64 b.r)) rfl (fun w' hC => r_load rfl (Ld.one Try.underlying3 rfl ((hBz23.below hC).cell (i := 0) rfl))) (rfl : _ = [_, _, _, _, _, _, _, _, _, _, _, _, _, _, _, _, _]) ?_
  refine h_take 5 rfl (by kernel_rfl) (rfl : _ = [true, true, true, true, false, true, false, false, false, false, false, false, false]) ?_
  refine h_val (v := (.pointer (some ⟨a1, 1, none⟩))) rfl (fun w' hC => r_field (k := 1) (o := 0) (by kernel_rfl) rfl) (rfl : _ = [_, _, _, _, _, _, _, _, _, _, _, _, _, _, _, _, _]) ?_
  refine h_take 6 rfl (by kernel_rfl) (rfl : _ = [true, true, true, true, false, true, true, false, false, false, false, false, false]) ?_
  refine h_val (v := (.int .i64 a.n)) rfl (fun w' hC => r_load rfl (Ld.one Try.underlying3 rfl ((hBz22.below hC).cell (i := 1) rfl))) (rfl : _ = [_, _, _, _, _, _, _, _, _, _, _, _, _, _, _, _, _]) ?_
  refine h_take 7 rfl (by kernel_rfl) (rfl : _ = [true, true, true, true, false, true, true, true, false, false, false, false, false]) ?_
  refine h_val (v := (.pointer (some ⟨a8, 1, none⟩))) rfl (fun w' hC => r_field (k := 1) (o := 0) (by kernel_rfl) rfl) (rfl : _ = [_, _, _, _, _, _, _, _, _, _, _, _, _, _, _, _, _]) ?_
  refine h_take 8 rfl (by kernel_rfl) (rfl : _ = [true, true, true, true, false, true, true, true, true, false, false, false, false]) ?_
  refine h_val (v := (.int .i64 b.n)) rfl (fun w' hC => r_load rfl (Ld.one Try.underlying3 rfl ((hBz23.below hC).cell (i := 1) rfl))) (rfl : _ = [_, _, _, _, _, _, _, _, _, _, _, _, _, _, _, _, _]) ?_
  refine h_one 4 (by kernel_rfl) rfl (rfl : _ = [true, true, true, true, true, true, true, true, true, false, false, false, false]) ?_
  refine s_call 77 _ _ (by kernel_rfl) rfl rfl (compare_c a.r b.r) ?_
  rintro _ w24 ⟨rfl, hb25⟩
  refine norm (rfl : _ = [_, _, _, _, _, _, _, _, _, _, _, _, _, _, _, _, _]) ?_
  have hc26 := Chg.of_bel hb25
  have hs27 := hc26.size
  replace hb := hb.chg hc26 (by omega)
  replace hr18 := hr18.chg hc26 (by omega)
  replace hB4 := hB4.chg hc26 (by omega)
  replace hB11 := hB11.chg hc26 (by omega)
  refine s_nil rfl ?_
  refine x_h hr18 ?_
  refine h_one 9 (by kernel_rfl) rfl (rfl : _ = [true, true, true, true, true, true, true, true, true, true, false, false, false]) ?_
  refine s_call 77 _ _ (by kernel_rfl) rfl rfl (compare_c a.n b.n) ?_
  rintro _ w28 ⟨rfl, hb29⟩
  refine norm (rfl : _ = [_, _, _, _, _, _, _, _, _, _, _, _, _, _, _, _, _]) ?_
  have hc30 := Chg.of_bel hb29
  have hs31 := hc30.size
  replace hb := hb.chg hc30 (by omega)
  replace hr18 := hr18.chg hc30 (by omega)
  replace hB4 := hB4.chg hc30 (by omega)
  replace hB11 := hB11.chg hc30 (by omega)
  refine s_nil rfl ?_
  refine x_h hr18 ?_
  refine h_one 10 (by kernel_rfl) rfl (rfl : _ = [true, true, true, true, true, true, true, true, true, true, true, false, false]) ?_
  refine s_buildSlice (cs := [.int .i64 (cmpI a.r b.r), .int .i64 (cmpI a.n b.n)]) (e := 3) 23 2 _ rfl rfl (by kernel_rfl) ?_
  intro a32 w33 he34 hB35 hc36 hz37
  refine norm (rfl : _ = [_, _, _, _, _, _, _, _, _, _, _, _, _, _, _, _, _]) ?_
  have hs38 := hc36.size
  replace hb := hb.chg hc36 (by omega)
  replace hr18 := hr18.chg hc36 (by omega)
  replace hB4 := hB4.chg hc36 (by omega)
  replace hB11 := hB11.chg hc36 (by omega)
  refine s_nil rfl ?_
  refine x_h hr18 ?_
  refine h_one 11 (by kernel_rfl) rfl (rfl : _ = [true, true, true, true, true, true, true, true, true, true, true, true, false]) ?_
  have hO39 : OwnX kInt 3 0 a32 (a32 + 1) w33 (.slice (some ⟨a32, 0, none⟩) 2 2) [cmpI a.r b.r, cmpI a.n b.n] := OwnX.of_bx (ok := (fun _ => False)) hB35 (Flat.snoc (cs := [.int .i64 (cmpI a.r b.r)]) (xs := [cmpI a.r b.r]) (c := [.int .i64 (cmpI a.n b.n)]) (x := cmpI a.n b.n) (flat_one rfl) rfl) rfl (by simp [lim]) (by omega) (Nat.le_refl _) (by omega) (by omega) (fun _ hb _ => hb.elim)
  refine s_call 76 _ _ (by kernel_rfl) rfl rfl (or_c hO39.sl) ?_
  rintro _ w40 ⟨rfl, hb41⟩
  refine norm (rfl : _ = [_, _, _, _, _, _, _, _, _, _, _, _, _, _, _, _, _]) ?_
  have hc42 := Chg.of_bel hb41
  have hs43 := hc42.size
  replace hb := hb.chg hc42 (by omega)
  replace hr18 := hr18.chg hc42 (by omega)
  replace hB4 := hB4.chg hc42 (by omega)
  replace hB11 := hB11.chg hc42 (by omega)
  replace hO39 := hO39.chg hc42 (by omega)
  refine s_nil rfl ?_
  refine x_h hr18 ?_
  refine h_take 12 rfl (by kernel_rfl) (rfl : _ = [true, true, true, true, true, true, true, true, true, true, true, true, true]) ?_
  refine h_val (v := (.int .i64 (orL [cmpI a.r b.r, cmpI a.n b.n]))) rfl (fun w' hC => r_assign rfl) (rfl : _ = [_, _, _, _, _, _, _, _, _, _, _, _, _, _, _, _, _]) ?_
  refine h_nil (by kernel_rfl) rfl ?_
  refine x_seq ?_
  refine c_ret ?_
  refine post_ret rfl rfl ?_
  exact ⟨int_eq (or_cmp a b), hb⟩

theorem cmpr_c {w : World} (a b : Bal) :
    CallsV Try.prog 45 #[(.agg #[.int .i64 a.r, .int .i64 a.n]), (.agg #[.int .i64 b.r, .int .i64 b.n])] w (fun r w' => r = .int .i64 (cmpBal a b) ∧ Bel w w') := by
  have hb := Bel.refl w
  refine callsV_of Try.func45 (m := 22) Try.ntmps45 rfl rfl (l := [.agg #[.int .i64 a.r, .int .i64 a.n], .agg #[.int .i64 b.r, .int .i64 b.n], undef, undef, undef, undef, undef, undef, undef, undef, undef, undef, undef, undef, undef, undef, undef, undef, undef, undef, undef, undef, undef, undef]) rfl ?_
  refine c_seq ?_
  refine c_region ?_
  refine s_box (v := (.agg #[.int .i64 a.r, .int .i64 a.n])) 73 _ rfl rfl ?_
  intro a1 w2 he3 hB4 hc5 hz6
  refine norm (rfl : _ = [_, _, _, _, _, _, _, _, _, _, _, _, _, _, _, _, _, _, _, _, _, _, _, _]) ?_
  have hs7 := hc5.size
  replace hb := hb.chg hc5 (by omega)
  refine s_box (v := (.agg #[.int .i64 b.r, .int .i64 b.n])) 73 _ rfl rfl ?_
  intro a8 w9 he10 hB11 hc12 hz13
  refine norm (rfl : _ = [_, _, _, _, _, _, _, _, _, _, _, _, _, _, _, _, _, _, _, _, _, _, _, _]) ?_
  have hs14 := hc12.size
  replace hb := hb.chg hc12 (by omega)
  replace hB4 := hB4.chg hc12 (by omega)
  refine s_val (v := (.int .i64 0)) rfl (r_assign rfl) (rfl : _ = [_, _, _, _, _, _, _, _, _, _, _, _, _, _, _, _, _, _, _, _, _, _, _, _]) ?_
  refine s_nil rfl ?_
  refine x_seq ?_
  refine c_seq ?_
  refine c_draw (by kernel_rfl) (by kernel_rfl) ?_
  refine q_val (v := (.pointer (some ⟨a1, 0, none⟩))) rfl (fun w' hC => r_field (k := 0) (o := 0) (by kernel_rfl) rfl) (rfl : _ = [_, _, _, _, _, _, _, _, _, _, _, _, _, _, _, _, _, _, _, _, _, _, _, _]) ?_
  refine q_val (v := (.int .i64 a.r)) rfl (fun w' hC => r_load rfl (Ld.one Try.underlying3 rfl ((hB4.below hC).cell (i := 0) rfl))) (rfl : _ = [_, _, _, _, _, _, _, _, _, _, _, _, _, _, _, _, _, _, _, _, _, _, _, _]) ?_
  refine q_val (v := (.pointer (some ⟨a8, 0, none⟩))) rfl (fun w' hC => r_field (k := 0) (o := 0) (by kernel_rfl) rfl) (rfl : _ = [_, _, _, _, _, _, _, _, _, _, _, _, _, _, _, _, _, _, _, _, _, _, _, _]) ?_
  refine q_val (v := (.int .i64 b.r)) rfl (fun w' hC => r_load rfl (Ld.one Try.underlying3 rfl ((hB11.below hC).cell (i := 0) rfl))) (rfl : _ = [_, _, _, _, _, _, _, _, _, _, _, _, _, _, _, _, _, _, _, _, _, _, _, _]) ?_
  refine q_val (v := (.int .i64 a.r)) rfl (fun w' hC => r_assign rfl) (rfl : _ = [_, _, _, _, _, _, _, _, _, _, _, _, _, _, _, _, _, _, _, _, _, _, _, _]) ?_
  refine q_val (v := (.int .i64 b.r)) rfl (fun w' hC => r_assign rfl) (rfl : _ = [_, _, _, _, _, _, _, _, _, _, _, _, _, _, _, _, _, _, _, _, _, _, _, _]) ?_
  refine q_nil rfl ?_
  intro w15 hq16
  have hc17 := Chg.of_bel hq16
  have hs18 := hc17.size
  replace hb := hb.chg hc17 (by omega)
  replace hB4 := hB4.chg hc17 (by omega)
  replace hB11 := hB11.chg hc17 (by omega)
  refine x_seq ?_
  refine c_seq ?_
  refine c_seq ?_
  refine c_region ?_
  refine s_val (v := (.int .i64 a.r)) rfl (r_move rfl) (rfl : _ = [_, _, _, _, _, _, _, _, _, _, _, _, _, _, _, _, _, _, _, _, _, _, _, _]) ?_
  refine s_val (v := (.int .i64 b.r)) rfl (r_move rfl) (rfl : _ = [_, _, _, _, _, _, _, _, _, _, _, _, _, _, _, _, _, _, _, _, _, _, _, _]) ?_
  refine s_bool (p := (a.r = b.r : Prop)) rfl (r_eqi rfl rfl) eqi_iff ?_
  intro b19 hb19
  refine norm (rfl : _ = [_, _, _, _, _, _, _, _, _, _, _, _, _, _, _, _, _, _, _, _, _, _, _, _]) ?_
  refine s_nil rfl ?_
  refine x_seq ?_
  cases b19 with
  | true =>
    replace hb19 := bt hb19
    refine c_cond rfl (fun _ => ?_) (fun hh => by cases hh)
    refine c_draw (by kernel_rfl) (by kernel_rfl) ?_
    refine q_val (v := (.pointer (some ⟨a1, 1, none⟩))) rfl (fun w' hC => r_field (k := 1) (o := 0) (by kernel_rfl) rfl) (rfl : _ = [_, _, _, _, _, _, _, _, _, _, _, _, _, _, _, _, _, _, _, _, _, _, _, _]) ?_
    refine q_val (v := (.int .i64 a.n)) rfl (fun w' hC => r_load rfl (Ld.one Try.underlying3 rfl ((hB4.below hC).cell (i := 1) rfl))) (rfl : _ = [_, _, _, _, _, _, _, _, _, _, _, _, _, _, _, _, _, _, _, _, _, _, _, _]) ?_
    refine q_val (v := (.pointer (some ⟨a8, 1, none⟩))) rfl (fun w' hC => r_field (k := 1) (o := 0) (by kernel_rfl) rfl) (rfl : _ = [_, _, _, _, _, _, _, _, _, _, _, _, _, _, _, _, _, _, _, _, _, _, _, _]) ?_
    refine q_val (v := (.int .i64 b.n)) rfl (fun w' hC => r_load rfl (Ld.one Try.underlying3 rfl ((hB11.below hC).cell (i := 1) rfl))) (rfl : _ = [_, _, _, _, _, _, _, _, _, _, _, _, _, _, _, _, _, _, _, _, _, _, _, _]) ?_
    refine q_val (v := (.int .i64 a.n)) rfl (fun w' hC => r_assign rfl) (rfl : _ = [_, _, _, _, _, _, _, _, _, _, _, _, _, _, _, _, _, _, _, _, _, _, _, _]) ?_
    refine q_val (v := (.int .i64 b.n)) rfl (fun w' hC => r_assign rfl) (rfl : _ = [_, _, _, _, _, _, _, _, _, _, _, _, _, _, _, _, _, _, _, _, _, _, _, _]) ?_
    refine q_nil rfl ?_
    intro w20 hq21
    have hc22 := Chg.of_bel hq21
    have hs23 := hc22.size
    replace hb := hb.chg hc22 (by omega)
    replace hB4 := hB4.chg hc22 (by omega)
    replace hB11 := hB11.chg hc22 (by omega)
    refine x_seq ?_
    refine c_seq ?_
    refine c_seq ?_
    refine c_region ?_
    refine s_val (v := (.int .i64 a.n)) rfl (r_move rfl) (rfl : _ = [_, _, _, _, _, _, _, _, _, _, _, _, _, _, _, _, _, _, _, _, _, _, _, _]) ?_
    refine s_val (v := (.int .i64 b.n)) rfl (r_move rfl) (rfl : _ = [_, _, _, _, _, _, _, _, _, _, _, _, _, _, _, _, _, _, _, _, _, _, _, _]) ?_
    refine s_bool (p := (a.n < b.n : Prop)) rfl (r_lss rfl rfl) decide_eq_true_iff ?_
    intro b24 hb24
    refine norm (rfl : _ = [_, _, _, _, _, _, _, _, _, _, _, _, _, _, _, _, _, _, _, _, _, _, _, _]) ?_
    refine s_nil rfl ?_
    refine x_seq ?_
    cases b24 with
    | true =>
      replace hb24 := bt hb24
      refine c_cond rfl (fun _ => ?_) (fun hh => by cases hh)
      refine c_seq ?_
      refine c_region ?_
      refine s_val (v := (.int .i64 (-1))) rfl (r_assign rfl) (rfl : _ = [_, _, _, _, _, _, _, _, _, _, _, _, _, _, _, _, _, _, _, _, _, _, _, _]) ?_
      refine s_nil rfl ?_
      refine x_seq ?_
      refine c_ret ?_
      refine x_then_ret ?_
      refine post_ret rfl rfl ?_
      exact ⟨int_eq (by unfold cmpBal cmpI; (repeat' split) <;> omega), hb⟩
    | false =>
      replace hb24 := bf hb24
      refine c_cond rfl (fun hh => by cases hh) (fun _ => ?_)
      refine c_skip ?_
      refine x_seq ?_
      refine c_seq ?_
      refine c_seq ?_
      refine c_region ?_
      refine s_val (v := (.int .i64 a.n)) rfl (r_move rfl) (rfl : _ = [_, _, _, _, _, _, _, _, _, _, _, _, _, _, _, _, _, _, _, _, _, _, _, _]) ?_
      refine s_val (v := (.int .i64 b.n)) rfl (r_move rfl) (rfl : _ = [_, _, _, _, _, _, _, _, _, _, _, _, _, _, _, _, _, _, _, _, _, _, _, _]) ?_
      refine s_bool (p := (b.n < a.n : Prop)) rfl (r_gtr rfl rfl) decide_eq_true_iff ?_
      intro b25 hb25
      refine norm (rfl : _ = [_, _, _, _, _, _, _, _, _, _, _, _, _, _, _, _, _, _, _, _, _, _, _, _]) ?_
      refine s_nil rfl ?_
      refine x_seq ?_
      cases b25 with
      | true =>
        replace hb25 := bt hb25
        refine c_cond rfl (fun _ => ?_) (fun hh => by cases hh)
        refine c_seq ?_
        refine c_region ?_
        refine s_val (v := (.int .i64 1)) rfl (r_assign rfl) (rfl : _ = [_, _, _, _, _, _, _, _, _, _, _, _, _, _, _, _, _, _, _, _, _, _, _, _]) ?_
        refine s_nil rfl ?_
        refine x_seq ?_
        refine c_ret ?_
        refine x_then_ret ?_
        refine post_ret rfl rfl ?_
        exact ⟨int_eq (by unfold cmpBal cmpI; (repeat' split) <;> omega), hb⟩
      | false =>
        replace hb25 := bf hb25
        refine c_cond rfl (fun hh => by cases hh) (fun _ => ?_)
        refine c_skip ?_
        refine x_seq ?_
        refine c_seq ?_
        refine c_region ?_
        refine s_val (v := (.int .i64 0)) rfl (r_assign rfl) (rfl : _ = [_, _, _, _, _, _, _, _, _, _, _, _, _, _, _, _, _, _, _, _, _, _, _, _]) ?_
        refine s_nil rfl ?_
        refine x_seq ?_
        refine c_ret ?_
        refine post_ret rfl rfl ?_
        exact ⟨int_eq (by unfold cmpBal cmpI; (repeat' split) <;> omega), hb⟩
  | false =>
    replace hb19 := bf hb19
    refine c_cond rfl (fun hh => by cases hh) (fun _ => ?_)
    refine c_skip ?_
    refine x_seq ?_
    refine c_seq ?_
    refine c_seq ?_
    refine c_region ?_
    refine s_val (v := (.int .i64 a.r)) rfl (r_move rfl) (rfl : _ = [_, _, _, _, _, _, _, _, _, _, _, _, _, _, _, _, _, _, _, _, _, _, _, _]) ?_
    refine s_val (v := (.int .i64 b.r)) rfl (r_move rfl) (rfl : _ = [_, _, _, _, _, _, _, _, _, _, _, _, _, _, _, _, _, _, _, _, _, _, _, _]) ?_
    refine s_bool (p := (a.r < b.r : Prop)) rfl (r_lss rfl rfl) decide_eq_true_iff ?_
    intro b26 hb26
    refine norm (rfl : _ = [_, _, _, _, _, _, _, _, _, _, _, _, _, _, _, _, _, _, _, _, _, _, _, _]) ?_
    refine s_nil rfl ?_
    refine x_seq ?_
    cases b26 with
    | true =>
      replace hb26 := bt hb26
      refine c_cond rfl (fun _ => ?_) (fun hh => by cases hh)
      refine c_seq ?_
      refine c_region ?_
      refine s_val (v := (.int .i64 (-1))) rfl (r_assign rfl) (rfl : _ = [_, _, _, _, _, _, _, _, _, _, _, _, _, _, _, _, _, _, _, _, _, _, _, _]) ?_
      refine s_nil rfl ?_
      refine x_seq ?_
      refine c_ret ?_
      refine x_then_ret ?_
      refine post_ret rfl rfl ?_
      exact ⟨int_eq (by unfold cmpBal cmpI; (repeat' split) <;> omega), hb⟩
    | false =>
      replace hb26 := bf hb26
      refine c_cond rfl (fun hh => by cases hh) (fun _ => ?_)
      refine c_skip ?_
      refine x_seq ?_
      refine c_seq ?_
      refine c_seq ?_
      refine c_region ?_
      refine s_val (v := (.int .i64 a.r)) rfl (r_move rfl) (rfl : _ = [_, _, _, _, _, _, _, _, _, _, _, _, _, _, _, _, _, _, _, _, _, _, _, _]) ?_
      refine s_val (v := (.int .i64 b.r)) rfl (r_move rfl) (rfl : _ = [_, _, _, _, _, _, _, _, _, _, _, _, _, _, _, _, _, _, _, _, _, _, _, _]) ?_
      refine s_bool (p := (b.r < a.r : Prop)) rfl (r_gtr rfl rfl) decide_eq_true_iff ?_
      intro b27 hb27
      refine norm (rfl : _ = [_, _, _, _, _, _, _, _, _, _, _, _, _, _, _, _, _, _, _, _, _, _, _, _]) ?_
      refine s_nil rfl ?_
      refine x_seq ?_
      cases b27 with
      | true =>
        replace hb27 := bt hb27
        refine c_cond rfl (fun _ => ?_) (fun hh => by cases hh)
        refine c_seq ?_
        refine c_region ?_
        refine s_val (v := (.int .i64 1)) rfl (r_assign rfl) (rfl : _ = [_, _, _, _, _, _, _, _, _, _, _, _, _, _, _, _, _, _, _, _, _, _, _, _]) ?_
        refine s_nil rfl ?_
        refine x_seq ?_
        refine c_ret ?_
        refine x_then_ret ?_
        refine post_ret rfl rfl ?_
        exact ⟨int_eq (by unfold cmpBal cmpI; (repeat' split) <;> omega), hb⟩
      | false =>
        replace hb27 := bf hb27
        refine c_cond rfl (fun hh => by cases hh) (fun _ => ?_)
        refine c_skip ?_
        refine x_seq ?_
        refine c_seq ?_
        refine c_region ?_
        refine s_val (v := (.int .i64 0)) rfl (r_assign rfl) (rfl : _ = [_, _, _, _, _, _, _, _, _, _, _, _, _, _, _, _, _, _, _, _, _, _, _, _]) ?_
        refine s_nil rfl ?_
        refine x_seq ?_
        refine c_ret ?_
        refine post_ret rfl rfl ?_
        exact ⟨int_eq (by unfold cmpBal cmpI; (repeat' split) <;> omega), hb⟩

theorem sameVec_c {ok ok2 : Nat → Prop} {w : World} {v u : Value} {xs ys : List Int} (hS : Sl kInt ok w v xs) (hT : Sl kInt ok2 w u ys) :
    CallsV Try.prog 83 #[v, u] w (fun r w' => r = .bool (toB (xs = ys)) ∧ Bel w w') := by
  have hb := Bel.refl w
  replace hS : Sl kInt (Rg w.heap.size 0 0) w v xs := hS.weak (by decide) (fun b _ hl => .inl hl)
  have hSlim := lim_le hS.lim
  replace hT : Sl kInt (Rg w.heap.size 0 0) w u ys := hT.weak (by decide) (fun b _ hl => .inl hl)
  have hTlim := lim_le hT.lim
  refine callsV_of Try.func83 (m := 24) Try.ntmps83 rfl rfl (l := [v, u, undef, undef, undef, undef, undef, undef, undef, undef, undef, undef, undef, undef, undef, undef, undef, undef, undef, undef, undef, undef, undef, undef, undef, undef]) rfl ?_
  refine c_seq ?_
  refine c_region ?_
  refine s_val (v := (.bool false)) rfl (r_assign rfl) (rfl : _ = [_, _, _, _, _, _, _, _, _, _, _, _, _, _, _, _, _, _, _, _, _, _, _, _, _, _]) ?_
  refine s_nil rfl ?_
  refine x_seq ?_
  refine c_seq ?_
  refine c_seq ?_
  refine c_region ?_
  refine s_val (v := v) rfl (r_move rfl) (rfl : _ = [_, _, _, _, _, _, _, _, _, _, _, _, _, _, _, _, _, _, _, _, _, _, _, _, _, _]) ?_
  refine s_val (v := (.int .i64 (xs.length : Int))) rfl ((hS.at_ hb).len Try.underlying23 rfl _) (rfl : _ = [_, _, _, _, _, _, _, _, _, _, _, _, _, _, _, _, _, _, _, _, _, _, _, _, _, _]) ?_
  refine s_val (v := u) rfl (r_move rfl) (rfl : _ = [_, _, _, _, _, _, _, _, _, _, _, _, _, _, _, _, _, _, _, _, _, _, _, _, _, _]) ?_
  refine s_val (v := (.int .i64 (ys.length : Int))) rfl ((hT.at_ hb).len Try.underlying23 rfl _) (rfl : _ = [_, _, _, _, _, _, _, _, _, _, _, _, _, _, _, _, _, _, _, _, _, _, _, _, _, _]) ?_
  refine s_bool (p := ((xs.length : Int) ≠ (ys.length : Int) : Prop)) rfl (r_nei rfl rfl) nei_iff ?_
  intro b1 hb1
  refine norm (rfl : _ = [_, _, _, _, _, _, _, _, _, _, _, _, _, _, _, _, _, _, _, _, _, _, _, _, _, _]) ?_
  refine s_nil rfl ?_
  refine x_seq ?_
  cases b1 with
  | true =>
    replace hb1 := bt hb1
    refine c_cond rfl (fun _ => ?_) (fun hh => by cases hh)
    refine c_seq ?_
    refine c_region ?_
    refine s_val (v := (.bool false)) rfl (r_assign rfl) (rfl : _ = [_, _, _, _, _, _, _, _, _, _, _, _, _, _, _, _, _, _, _, _, _, _, _, _, _, _]) ?_
    refine s_nil rfl ?_
    refine x_seq ?_
    refine c_ret ?_
    refine x_then_ret ?_
    refine post_ret rfl rfl ?_
    exact ⟨ret_no (fun hh => by subst hh; omega), hb⟩
  | false =>
    replace hb1 := bf hb1
    refine c_cond rfl (fun hh => by cases hh) (fun _ => ?_)
    refine c_skip ?_
    refine x_seq ?_
    refine c_seq ?_
    refine c_seq ?_
    refine c_region ?_
    refine s_val (v := (.int .i64 0)) rfl (r_assign rfl) (rfl : _ = [_, _, _, _, _, _, _, _, _, _, _, _, _, _, _, _, _, _, _, _, _, _, _, _, _, _]) ?_
    refine s_nil rfl ?_
    refine x_seq ?_
    refine c_block ?_
    refine c_loop (fun kk_ fr_ wr2 => ∃ (i : Nat) (jk3 : Nat → Value), kk_ = xs.length - i ∧ fr_ = [v, u, jk3 0, jk3 1, jk3 2, .int .i64 (i : Int), jk3 3, jk3 4, jk3 5, jk3 6, jk3 7, jk3 8, jk3 9, jk3 10, jk3 11, jk3 12, jk3 13, jk3 14, jk3 15, jk3 16, jk3 17, jk3 18, jk3 19, jk3 20, jk3 21, jk3 22] ∧ (i ≤ xs.length) ∧ (∀ j, j < i → xs[j]? = ys[j]?) ∧ Bel w wr2 ∧ w.heap.size ≤ wr2.heap.size) _ ⟨0, (fun n_ => ([undef, undef, .bool false, v, .int .i64 (xs.length : Int), u, .int .i64 (ys.length : Int), .bool false, undef, undef, undef, undef, undef, undef, undef, undef, undef, undef, undef, undef, undef, undef, undef] : List Value).getD n_ undef), rfl, rfl, (Nat.zero_le _), (fun j hj => absurd hj (Nat.not_lt_zero _)), hb, (Nat.le_refl _)⟩ ?_
    rintro _ _ wr2 ⟨i, jk3, rfl, rfl, hi, hall, hb4, hws5⟩
    have hs6 := hb4.size
    refine c_seq ?_
    refine c_seq ?_
    refine c_region ?_
    refine s_val (v := (.int .i64 (i : Int))) rfl (r_move rfl) (rfl : _ = [_, _, _, _, _, _, _, _, _, _, _, _, _, _, _, _, _, _, _, _, _, _, _, _, _, _]) ?_
    refine s_val (v := v) rfl (r_move rfl) (rfl : _ = [_, _, _, _, _, _, _, _, _, _, _, _, _, _, _, _, _, _, _, _, _, _, _, _, _, _]) ?_
    refine s_val (v := (.int .i64 (xs.length : Int))) rfl ((hS.at_ hb4).len Try.underlying23 rfl _) (rfl : _ = [_, _, _, _, _, _, _, _, _, _, _, _, _, _, _, _, _, _, _, _, _, _, _, _, _, _]) ?_
    refine s_bool (p := ((i : Int) < (xs.length : Int) : Prop)) rfl (r_lss rfl rfl) decide_eq_true_iff ?_
    intro b7 hb7
    refine norm (rfl : _ = [_, _, _, _, _, _, _, _, _, _, _, _, _, _, _, _, _, _, _, _, _, _, _, _, _, _]) ?_
    refine s_nil rfl ?_
    refine x_seq ?_
    cases b7 with
    | true =>
      replace hb7 := bt hb7
      refine c_cond rfl (fun _ => ?_) (fun hh => by cases hh)
      refine c_skip ?_
      refine x_seq ?_
      refine c_seq ?_
      refine c_block ?_
      refine c_seq ?_
      refine c_draw (by kernel_rfl) (by kernel_rfl) ?_
      refine q_val (v := v) rfl (fun w' hC => r_move rfl) (rfl : _ = [_, _, _, _, _, _, _, _, _, _, _, _, _, _, _, _, _, _, _, _, _, _, _, _, _, _]) ?_
      refine q_val (v := (.int .i64 (i : Int))) rfl (fun w' hC => r_move rfl) (rfl : _ = [_, _, _, _, _, _, _, _, _, _, _, _, _, _, _, _, _, _, _, _, _, _, _, _, _, _]) ?_
      obtain ⟨e8, a9, o10, c11, he12, hc13, hr14, hk15, hi16⟩ := (hS.at_ hb4).idx (j := (i : Int)) (by first | omega | decide) (by first | omega | simp)
      rw [Int.toNat_natCast] at he12
      obtain rfl : c11 = [.int .i64 e8] := hc13
      refine q_val rfl (fun w' hC => hi16 _ _ _ _ _ _ _ (by kernel_rfl) rfl rfl) (rfl : _ = [_, _, _, _, _, _, _, _, _, _, _, _, _, _, _, _, _, _, _, _, _, _, _, _, _, _]) ?_
      refine q_val (v := (.int .i64 e8)) rfl (fun w' hC => r_load rfl (Ld.one Try.underlying3 rfl ((range_below hr14 hC) 0 _ rfl))) (rfl : _ = [_, _, _, _, _, _, _, _, _, _, _, _, _, _, _, _, _, _, _, _, _, _, _, _, _, _]) ?_
      refine q_val (v := u) rfl (fun w' hC => r_move rfl) (rfl : _ = [_, _, _, _, _, _, _, _, _, _, _, _, _, _, _, _, _, _, _, _, _, _, _, _, _, _]) ?_
      refine q_val (v := (.int .i64 (i : Int))) rfl (fun w' hC => r_move rfl) (rfl : _ = [_, _, _, _, _, _, _, _, _, _, _, _, _, _, _, _, _, _, _, _, _, _, _, _, _, _]) ?_
      obtain ⟨e17, a18, o19, c20, he21, hc22, hr23, hk24, hi25⟩ := (hT.at_ hb4).idx (j := (i : Int)) (by first | omega | decide) (by first | omega | simp)
      rw [Int.toNat_natCast] at he21
      obtain rfl : c20 = [.int .i64 e17] := hc22
      refine q_val rfl (fun w' hC => hi25 _ _ _ _ _ _ _ (by kernel_rfl) rfl rfl) (rfl : _ = [_, _, _, _, _, _, _, _, _, _, _, _, _, _, _, _, _, _, _, _, _, _, _, _, _, _]) ?_
      refine q_val (v := (.int .i64 e17)) rfl (fun w' hC => r_load rfl (Ld.one Try.underlying3 rfl ((range_below hr23 hC) 0 _ rfl))) (rfl : _ = [_, _, _, _, _, _, _, _, _, _, _, _, _, _, _, _, _, _, _, _, _, _, _, _, _, _]) ?_
      refine q_bool (p := (e8 ≠ e17 : Prop)) rfl (fun w' hC => r_nei rfl rfl) nei_iff ?_
      intro b26 hb26
      refine q_norm (rfl : _ = [_, _, _, _, _, _, _, _, _, _, _, _, _, _, _, _, _, _, _, _, _, _, _, _, _, _]) ?_
      refine q_nil rfl ?_
      intro w27 hq28
      have hc29 := Chg.of_bel hq28
      have hs30 := hc29.size
      replace hb4 := hb4.chg hc29 (by omega)
      refine x_seq ?_
      cases b26 with
      | true =>
        replace hb26 := bt hb26
        refine c_cond rfl (fun _ => ?_) (fun hh => by cases hh)
        refine c_seq ?_
        refine c_region ?_
        refine s_val (v := (.bool false)) rfl (r_assign rfl) (rfl : _ = [_, _, _, _, _, _, _, _, _, _, _, _, _, _, _, _, _, _, _, _, _, _, _, _, _, _]) ?_
        refine s_nil rfl ?_
        refine x_seq ?_
        refine c_ret ?_
        refine x_block_ret ?_
        refine x_then_ret ?_
        refine x_then_ret ?_
        refine x_block_ret ?_
        refine x_then_ret ?_
        refine post_ret rfl rfl ?_
        exact ⟨ret_no (fun hh => by subst hh; rw [he12] at he21; injection he21 with hh2; exact absurd hh2 (by assumption)), hb4⟩
      | false =>
        replace hb26 := bf hb26
        refine c_cond rfl (fun hh => by cases hh) (fun _ => ?_)
        refine c_skip ?_
        refine x_block ?_
        refine x_seq ?_
        refine c_region ?_
        refine s_val (v := (.int .i64 (i : Int))) rfl (r_move rfl) (rfl : _ = [_, _, _, _, _, _, _, _, _, _, _, _, _, _, _, _, _, _, _, _, _, _, _, _, _, _]) ?_
        refine s_val (v := (.int .i64 ((i : Int) + 1))) rfl (r_add (c := (i : Int) + 1) rfl rfl (i64_in (by omega) (by omega))) (rfl : _ = [_, _, _, _, _, _, _, _, _, _, _, _, _, _, _, _, _, _, _, _, _, _, _, _, _, _]) ?_
        refine s_val (v := (.int .i64 ((i : Int) + 1))) rfl (r_assign rfl) (rfl : _ = [_, _, _, _, _, _, _, _, _, _, _, _, _, _, _, _, _, _, _, _, _, _, _, _, _, _]) ?_
        refine s_nil rfl ?_
        refine x_then ?_
        refine ⟨_, _, ?_, rfl, (i + 1), (fun n_ => ([jk3 0, jk3 1, jk3 2, jk3 3, jk3 4, jk3 5, jk3 6, jk3 7, .int .i64 (i : Int), v, .int .i64 (xs.length : Int), .bool true, .int .i64 (i : Int), .int .i64 ((i : Int) + 1), v, .int .i64 (i : Int), .pointer (some ⟨a9, o10, none⟩), .int .i64 e8, u, .int .i64 (i : Int), .pointer (some ⟨a18, o19, none⟩), .int .i64 e17, .bool false] : List Value).getD n_ undef), rfl, rfl, (by omega), (all_succ hall (by rw [he12, he21]; congr 1; by_cases hh : e8 = e17; exact hh; first | exact absurd hh (by assumption) | exact absurd (fun h => hh h) (by assumption))), hb4, (by omega)⟩
        omega
    | false =>
      replace hb7 := bf hb7
      refine c_cond rfl (fun hh => by cases hh) (fun _ => ?_)
      refine c_exit ?_
      refine x_then_exit ?_
      refine x_then_exit ?_
      refine x_block_same ?_
      refine x_seq ?_
      refine c_seq ?_
      refine c_region ?_
      refine s_val (v := (.bool true)) rfl (r_assign rfl) (rfl : _ = [_, _, _, _, _, _, _, _, _, _, _, _, _, _, _, _, _, _, _, _, _, _, _, _, _, _]) ?_
      refine s_nil rfl ?_
      refine x_seq ?_
      refine c_ret ?_
      refine post_ret rfl rfl ?_
      exact ⟨ret_yes (eq_of_all (by omega) (fun j hj => hall j (by omega))), hb4⟩

theorem sameSeal_c {ok ok2 : Nat → Prop} {w : World} {d e : Value} {a b : Seal} (hS : Sl kInt ok w d a.cut) (hT : Sl kInt ok2 w e b.cut) :
    CallsV Try.prog 52 #[(.agg #[.string a.token, .string a.cart, .int .i64 a.epoch, d]), (.agg #[.string b.token, .string b.cart, .int .i64 b.epoch, e])] w (fun r w' => r = .bool (toB (a = b)) ∧ Bel w w') := by
  have hb := Bel.refl w
  replace hS : Sl kInt (Rg w.heap.size 0 0) w d a.cut := hS.weak (by decide) (fun b _ hl => .inl hl)
  have hSlim := lim_le hS.lim
  replace hT : Sl kInt (Rg w.heap.size 0 0) w e b.cut := hT.weak (by decide) (fun b _ hl => .inl hl)
  have hTlim := lim_le hT.lim
  refine callsV_of Try.func52 (m := 29) Try.ntmps52 rfl rfl (l := [.agg #[.string a.token, .string a.cart, .int .i64 a.epoch, d], .agg #[.string b.token, .string b.cart, .int .i64 b.epoch, e], undef, undef, undef, undef, undef, undef, undef, undef, undef, undef, undef, undef, undef, undef, undef, undef, undef, undef, undef, undef, undef, undef, undef, undef, undef, undef, undef, undef, undef]) rfl ?_
  refine c_seq ?_
  refine c_region ?_
  refine s_box (v := (.agg #[.string a.token, .string a.cart, .int .i64 a.epoch, d])) 25 _ rfl rfl ?_
  intro a1 w2 he3 hB4 hc5 hz6
  refine norm (rfl : _ = [_, _, _, _, _, _, _, _, _, _, _, _, _, _, _, _, _, _, _, _, _, _, _, _, _, _, _, _, _, _, _]) ?_
  have hs7 := hc5.size
  replace hb := hb.chg hc5 (by omega)
  refine s_box (v := (.agg #[.string b.token, .string b.cart, .int .i64 b.epoch, e])) 25 _ rfl rfl ?_
  intro a8 w9 he10 hB11 hc12 hz13
  refine norm (rfl : _ = [_, _, _, _, _, _, _, _, _, _, _, _, _, _, _, _, _, _, _, _, _, _, _, _, _, _, _, _, _, _, _]) ?_
  have hs14 := hc12.size
  replace hb := hb.chg hc12 (by omega)
  replace hB4 := hB4.chg hc12 (by omega)
  refine s_val (v := (.bool false)) rfl (r_assign rfl) (rfl : _ = [_, _, _, _, _, _, _, _, _, _, _, _, _, _, _, _, _, _, _, _, _, _, _, _, _, _, _, _, _, _, _]) ?_
  refine s_nil rfl ?_
  refine x_seq ?_
  refine c_seq ?_
  refine c_region ?_
  refine s_val (v := (.pointer (some ⟨a1, 0, none⟩))) rfl (r_field (k := 0) (o := 0) (by kernel_rfl) rfl) (rfl : _ = [_, _, _, _, _, _, _, _, _, _, _, _, _, _, _, _, _, _, _, _, _, _, _, _, _, _, _, _, _, _, _]) ?_
  refine s_val (v := (.string a.token)) rfl (r_load rfl (Ld.one Try.underlying9 rfl (hB4.cell (i := 0) rfl))) (rfl : _ = [_, _, _, _, _, _, _, _, _, _, _, _, _, _, _, _, _, _, _, _, _, _, _, _, _, _, _, _, _, _, _]) ?_
  refine s_val (v := (.pointer (some ⟨a8, 0, none⟩))) rfl (r_field (k := 0) (o := 0) (by kernel_rfl) rfl) (rfl : _ = [_, _, _, _, _, _, _, _, _, _, _, _, _, _, _, _, _, _, _, _, _, _, _, _, _, _, _, _, _, _, _]) ?_
  refine s_val (v := (.string b.token)) rfl (r_load rfl (Ld.one Try.underlying9 rfl (hB11.cell (i := 0) rfl))) (rfl : _ = [_, _, _, _, _, _, _, _, _, _, _, _, _, _, _, _, _, _, _, _, _, _, _, _, _, _, _, _, _, _, _]) ?_
  refine s_bool (p := (a.token = b.token : Prop)) rfl (r_eqs rfl rfl) eqs_iff ?_
  intro b15 hb15
  refine norm (rfl : _ = [_, _, _, _, _, _, _, _, _, _, _, _, _, _, _, _, _, _, _, _, _, _, _, _, _, _, _, _, _, _, _]) ?_
  refine s_val (v := (.bool b15)) rfl (r_move rfl) (rfl : _ = [_, _, _, _, _, _, _, _, _, _, _, _, _, _, _, _, _, _, _, _, _, _, _, _, _, _, _, _, _, _, _]) ?_
  cases b15 with
  | true =>
    replace hb15 := bt hb15
    refine s_val (v := (.pointer (some ⟨a1, 1, none⟩))) (wan_t (dj := 10) rfl rfl) (r_field (k := 1) (o := 0) (by kernel_rfl) rfl) (rfl : _ = [_, _, _, _, _, _, _, _, _, _, _, _, _, _, _, _, _, _, _, _, _, _, _, _, _, _, _, _, _, _, _]) ?_
    refine s_val (v := (.string a.cart)) (wan_t (dj := 10) rfl rfl) (r_load rfl (Ld.one Try.underlying9 rfl (hB4.cell (i := 1) rfl))) (rfl : _ = [_, _, _, _, _, _, _, _, _, _, _, _, _, _, _, _, _, _, _, _, _, _, _, _, _, _, _, _, _, _, _]) ?_
    refine s_val (v := (.pointer (some ⟨a8, 1, none⟩))) (wan_t (dj := 10) rfl rfl) (r_field (k := 1) (o := 0) (by kernel_rfl) rfl) (rfl : _ = [_, _, _, _, _, _, _, _, _, _, _, _, _, _, _, _, _, _, _, _, _, _, _, _, _, _, _, _, _, _, _]) ?_
    refine s_val (v := (.string b.cart)) (wan_t (dj := 10) rfl rfl) (r_load rfl (Ld.one Try.underlying9 rfl (hB11.cell (i := 1) rfl))) (rfl : _ = [_, _, _, _, _, _, _, _, _, _, _, _, _, _, _, _, _, _, _, _, _, _, _, _, _, _, _, _, _, _, _]) ?_
    refine s_bool (p := (a.cart = b.cart : Prop)) (wan_t (dj := 10) rfl rfl) (r_eqs rfl rfl) eqs_iff ?_
    intro b16 hb16
    refine norm (rfl : _ = [_, _, _, _, _, _, _, _, _, _, _, _, _, _, _, _, _, _, _, _, _, _, _, _, _, _, _, _, _, _, _]) ?_
    refine s_val (v := (.bool b16)) rfl (r_pick rfl rfl) (rfl : _ = [_, _, _, _, _, _, _, _, _, _, _, _, _, _, _, _, _, _, _, _, _, _, _, _, _, _, _, _, _, _, _]) ?_
    refine s_val (v := (.bool b16)) rfl (r_move rfl) (rfl : _ = [_, _, _, _, _, _, _, _, _, _, _, _, _, _, _, _, _, _, _, _, _, _, _, _, _, _, _, _, _, _, _]) ?_
    cases b16 with
    | true =>
      replace hb16 := bt hb16
      refine s_val (v := (.pointer (some ⟨a1, 2, none⟩))) (wan_t (dj := 17) rfl rfl) (r_field (k := 2) (o := 0) (by kernel_rfl) rfl) (rfl : _ = [_, _, _, _, _, _, _, _, _, _, _, _, _, _, _, _, _, _, _, _, _, _, _, _, _, _, _, _, _, _, _]) ?_
      refine s_val (v := (.int .i64 a.epoch)) (wan_t (dj := 17) rfl rfl) (r_load rfl (Ld.one Try.underlying3 rfl (hB4.cell (i := 2) rfl))) (rfl : _ = [_, _, _, _, _, _, _, _, _, _, _, _, _, _, _, _, _, _, _, _, _, _, _, _, _, _, _, _, _, _, _]) ?_
      refine s_val (v := (.pointer (some ⟨a8, 2, none⟩))) (wan_t (dj := 17) rfl rfl) (r_field (k := 2) (o := 0) (by kernel_rfl) rfl) (rfl : _ = [_, _, _, _, _, _, _, _, _, _, _, _, _, _, _, _, _, _, _, _, _, _, _, _, _, _, _, _, _, _, _]) ?_
      refine s_val (v := (.int .i64 b.epoch)) (wan_t (dj := 17) rfl rfl) (r_load rfl (Ld.one Try.underlying3 rfl (hB11.cell (i := 2) rfl))) (rfl : _ = [_, _, _, _, _, _, _, _, _, _, _, _, _, _, _, _, _, _, _, _, _, _, _, _, _, _, _, _, _, _, _]) ?_
      refine s_bool (p := (a.epoch = b.epoch : Prop)) (wan_t (dj := 17) rfl rfl) (r_eqi rfl rfl) eqi_iff ?_
      intro b17 hb17
      refine norm (rfl : _ = [_, _, _, _, _, _, _, _, _, _, _, _, _, _, _, _, _, _, _, _, _, _, _, _, _, _, _, _, _, _, _]) ?_
      refine s_val (v := (.bool b17)) rfl (r_pick rfl rfl) (rfl : _ = [_, _, _, _, _, _, _, _, _, _, _, _, _, _, _, _, _, _, _, _, _, _, _, _, _, _, _, _, _, _, _]) ?_
      refine s_val (v := (.bool b17)) rfl (r_move rfl) (rfl : _ = [_, _, _, _, _, _, _, _, _, _, _, _, _, _, _, _, _, _, _, _, _, _, _, _, _, _, _, _, _, _, _]) ?_
      cases b17 with
      | true =>
        replace hb17 := bt hb17
        refine s_val (v := (.pointer (some ⟨a1, 3, none⟩))) (wan_t (dj := 24) rfl rfl) (r_field (k := 3) (o := 0) (by kernel_rfl) rfl) (rfl : _ = [_, _, _, _, _, _, _, _, _, _, _, _, _, _, _, _, _, _, _, _, _, _, _, _, _, _, _, _, _, _, _]) ?_
        refine s_val (v := d) (wan_t (dj := 24) rfl rfl) (r_load rfl (Ld.one Try.underlying23 rfl (hB4.cell (i := 3) rfl))) (rfl : _ = [_, _, _, _, _, _, _, _, _, _, _, _, _, _, _, _, _, _, _, _, _, _, _, _, _, _, _, _, _, _, _]) ?_
        refine s_val (v := (.pointer (some ⟨a8, 3, none⟩))) (wan_t (dj := 24) rfl rfl) (r_field (k := 3) (o := 0) (by kernel_rfl) rfl) (rfl : _ = [_, _, _, _, _, _, _, _, _, _, _, _, _, _, _, _, _, _, _, _, _, _, _, _, _, _, _, _, _, _, _]) ?_
        refine s_val (v := e) (wan_t (dj := 24) rfl rfl) (r_load rfl (Ld.one Try.underlying23 rfl (hB11.cell (i := 3) rfl))) (rfl : _ = [_, _, _, _, _, _, _, _, _, _, _, _, _, _, _, _, _, _, _, _, _, _, _, _, _, _, _, _, _, _, _]) ?_
        refine s_callb 83 _ _ (by kernel_rfl) (wan_t (dj := 24) rfl rfl) rfl (sameVec_c (hS.at_ hb) (hT.at_ hb)) ?_
        intro b18 w19 hb18 hb20
        refine norm (rfl : _ = [_, _, _, _, _, _, _, _, _, _, _, _, _, _, _, _, _, _, _, _, _, _, _, _, _, _, _, _, _, _, _]) ?_
        have hc21 := Chg.of_bel hb20
        have hs22 := hc21.size
        replace hb := hb.chg hc21 (by omega)
        replace hB4 := hB4.chg hc21 (by omega)
        replace hB11 := hB11.chg hc21 (by omega)
        refine s_val (v := (.bool b18)) rfl (r_pick rfl rfl) (rfl : _ = [_, _, _, _, _, _, _, _, _, _, _, _, _, _, _, _, _, _, _, _, _, _, _, _, _, _, _, _, _, _, _]) ?_
        refine s_val (v := (.bool b18)) rfl (r_assign rfl) (rfl : _ = [_, _, _, _, _, _, _, _, _, _, _, _, _, _, _, _, _, _, _, _, _, _, _, _, _, _, _, _, _, _, _]) ?_
        refine s_nil rfl ?_
        refine x_seq ?_
        refine c_ret ?_
        refine post_ret rfl rfl ?_
        cases b18 with
        | true =>
          replace hb18 := toB_t hb18
          exact ⟨ret_yes (Seal.ext (by first | assumption | (subst_vars; assumption)) (by first | assumption | (subst_vars; assumption)) (by first | assumption | (subst_vars; assumption)) (by first | assumption | (subst_vars; assumption))), hb⟩
        | false =>
          replace hb18 := toB_f hb18
          exact ⟨ret_no (fun hh => by first | exact absurd (congrArg Seal.token hh) (by first | assumption | (subst_vars; assumption)) | exact absurd (congrArg Seal.cart hh) (by first | assumption | (subst_vars; assumption)) | exact absurd (congrArg Seal.epoch hh) (by first | assumption | (subst_vars; assumption)) | exact absurd (congrArg Seal.cut hh) (by first | assumption | (subst_vars; assumption))), hb⟩
      | false =>
        replace hb17 := bf hb17
        refine s_skip (wan_f (dj := 24) rfl rfl rfl) (rfl : _ = [_, _, _, _, _, _, _, _, _, _, _, _, _, _, _, _, _, _, _, _, _, _, _, _, _, _, _, _, _, _, _]) ?_
        refine s_skip (wan_f (dj := 24) rfl rfl rfl) (rfl : _ = [_, _, _, _, _, _, _, _, _, _, _, _, _, _, _, _, _, _, _, _, _, _, _, _, _, _, _, _, _, _, _]) ?_
        refine s_skip (wan_f (dj := 24) rfl rfl rfl) (rfl : _ = [_, _, _, _, _, _, _, _, _, _, _, _, _, _, _, _, _, _, _, _, _, _, _, _, _, _, _, _, _, _, _]) ?_
        refine s_skip (wan_f (dj := 24) rfl rfl rfl) (rfl : _ = [_, _, _, _, _, _, _, _, _, _, _, _, _, _, _, _, _, _, _, _, _, _, _, _, _, _, _, _, _, _, _]) ?_
        refine s_skip (wan_f (dj := 24) rfl rfl rfl) (rfl : _ = [_, _, _, _, _, _, _, _, _, _, _, _, _, _, _, _, _, _, _, _, _, _, _, _, _, _, _, _, _, _, _]) ?_
        refine s_val (v := (.bool false)) rfl (r_pick rfl rfl) (rfl : _ = [_, _, _, _, _, _, _, _, _, _, _, _, _, _, _, _, _, _, _, _, _, _, _, _, _, _, _, _, _, _, _]) ?_
        refine s_val (v := (.bool false)) rfl (r_assign rfl) (rfl : _ = [_, _, _, _, _, _, _, _, _, _, _, _, _, _, _, _, _, _, _, _, _, _, _, _, _, _, _, _, _, _, _]) ?_
        refine s_nil rfl ?_
        refine x_seq ?_
        refine c_ret ?_
        refine post_ret rfl rfl ?_
        exact ⟨ret_no (fun hh => by first | exact absurd (congrArg Seal.token hh) (by first | assumption | (subst_vars; assumption)) | exact absurd (congrArg Seal.cart hh) (by first | assumption | (subst_vars; assumption)) | exact absurd (congrArg Seal.epoch hh) (by first | assumption | (subst_vars; assumption)) | exact absurd (congrArg Seal.cut hh) (by first | assumption | (subst_vars; assumption))), hb⟩
    | false =>
      replace hb16 := bf hb16
      refine s_skip (wan_f (dj := 17) rfl rfl rfl) (rfl : _ = [_, _, _, _, _, _, _, _, _, _, _, _, _, _, _, _, _, _, _, _, _, _, _, _, _, _, _, _, _, _, _]) ?_
      refine s_skip (wan_f (dj := 17) rfl rfl rfl) (rfl : _ = [_, _, _, _, _, _, _, _, _, _, _, _, _, _, _, _, _, _, _, _, _, _, _, _, _, _, _, _, _, _, _]) ?_
      refine s_skip (wan_f (dj := 17) rfl rfl rfl) (rfl : _ = [_, _, _, _, _, _, _, _, _, _, _, _, _, _, _, _, _, _, _, _, _, _, _, _, _, _, _, _, _, _, _]) ?_
      refine s_skip (wan_f (dj := 17) rfl rfl rfl) (rfl : _ = [_, _, _, _, _, _, _, _, _, _, _, _, _, _, _, _, _, _, _, _, _, _, _, _, _, _, _, _, _, _, _]) ?_
      refine s_skip (wan_f (dj := 17) rfl rfl rfl) (rfl : _ = [_, _, _, _, _, _, _, _, _, _, _, _, _, _, _, _, _, _, _, _, _, _, _, _, _, _, _, _, _, _, _]) ?_
      refine s_val (v := (.bool false)) rfl (r_pick rfl rfl) (rfl : _ = [_, _, _, _, _, _, _, _, _, _, _, _, _, _, _, _, _, _, _, _, _, _, _, _, _, _, _, _, _, _, _]) ?_
      refine s_val (v := (.bool false)) rfl (r_move rfl) (rfl : _ = [_, _, _, _, _, _, _, _, _, _, _, _, _, _, _, _, _, _, _, _, _, _, _, _, _, _, _, _, _, _, _]) ?_
      refine s_skip (wan_f (dj := 24) rfl rfl rfl) (rfl : _ = [_, _, _, _, _, _, _, _, _, _, _, _, _, _, _, _, _, _, _, _, _, _, _, _, _, _, _, _, _, _, _]) ?_
      refine s_skip (wan_f (dj := 24) rfl rfl rfl) (rfl : _ = [_, _, _, _, _, _, _, _, _, _, _, _, _, _, _, _, _, _, _, _, _, _, _, _, _, _, _, _, _, _, _]) ?_
      refine s_skip (wan_f (dj := 24) rfl rfl rfl) (rfl : _ = [_, _, _, _, _, _, _, _, _, _, _, _, _, _, _, _, _, _, _, _, _, _, _, _, _, _, _, _, _, _, _]) ?_
      refine s_skip (wan_f (dj := 24) rfl rfl rfl) (rfl : _ = [_, _, _, _, _, _, _, _, _, _, _, _, _, _, _, _, _, _, _, _, _, _, _, _, _, _, _, _, _, _, _]) ?_
      refine s_skip (wan_f (dj := 24) rfl rfl rfl) (rfl : _ = [_, _, _, _, _, _, _, _, _, _, _, _, _, _, _, _, _, _, _, _, _, _, _, _, _, _, _, _, _, _, _]) ?_
      refine s_val (v := (.bool false)) rfl (r_pick rfl rfl) (rfl : _ = [_, _, _, _, _, _, _, _, _, _, _, _, _, _, _, _, _, _, _, _, _, _, _, _, _, _, _, _, _, _, _]) ?_
      refine s_val (v := (.bool false)) rfl (r_assign rfl) (rfl : _ = [_, _, _, _, _, _, _, _, _, _, _, _, _, _, _, _, _, _, _, _, _, _, _, _, _, _, _, _, _, _, _]) ?_
      refine s_nil rfl ?_
      refine x_seq ?_
      refine c_ret ?_
      refine post_ret rfl rfl ?_
      exact ⟨ret_no (fun hh => by first | exact absurd (congrArg Seal.token hh) (by first | assumption | (subst_vars; assumption)) | exact absurd (congrArg Seal.cart hh) (by first | assumption | (subst_vars; assumption)) | exact absurd (congrArg Seal.epoch hh) (by first | assumption | (subst_vars; assumption)) | exact absurd (congrArg Seal.cut hh) (by first | assumption | (subst_vars; assumption))), hb⟩
  | false =>
    replace hb15 := bf hb15
    refine s_skip (wan_f (dj := 10) rfl rfl rfl) (rfl : _ = [_, _, _, _, _, _, _, _, _, _, _, _, _, _, _, _, _, _, _, _, _, _, _, _, _, _, _, _, _, _, _]) ?_
    refine s_skip (wan_f (dj := 10) rfl rfl rfl) (rfl : _ = [_, _, _, _, _, _, _, _, _, _, _, _, _, _, _, _, _, _, _, _, _, _, _, _, _, _, _, _, _, _, _]) ?_
    refine s_skip (wan_f (dj := 10) rfl rfl rfl) (rfl : _ = [_, _, _, _, _, _, _, _, _, _, _, _, _, _, _, _, _, _, _, _, _, _, _, _, _, _, _, _, _, _, _]) ?_
    refine s_skip (wan_f (dj := 10) rfl rfl rfl) (rfl : _ = [_, _, _, _, _, _, _, _, _, _, _, _, _, _, _, _, _, _, _, _, _, _, _, _, _, _, _, _, _, _, _]) ?_
    refine s_skip (wan_f (dj := 10) rfl rfl rfl) (rfl : _ = [_, _, _, _, _, _, _, _, _, _, _, _, _, _, _, _, _, _, _, _, _, _, _, _, _, _, _, _, _, _, _]) ?_
    refine s_val (v := (.bool false)) rfl (r_pick rfl rfl) (rfl : _ = [_, _, _, _, _, _, _, _, _, _, _, _, _, _, _, _, _, _, _, _, _, _, _, _, _, _, _, _, _, _, _]) ?_
    refine s_val (v := (.bool false)) rfl (r_move rfl) (rfl : _ = [_, _, _, _, _, _, _, _, _, _, _, _, _, _, _, _, _, _, _, _, _, _, _, _, _, _, _, _, _, _, _]) ?_
    refine s_skip (wan_f (dj := 17) rfl rfl rfl) (rfl : _ = [_, _, _, _, _, _, _, _, _, _, _, _, _, _, _, _, _, _, _, _, _, _, _, _, _, _, _, _, _, _, _]) ?_
    refine s_skip (wan_f (dj := 17) rfl rfl rfl) (rfl : _ = [_, _, _, _, _, _, _, _, _, _, _, _, _, _, _, _, _, _, _, _, _, _, _, _, _, _, _, _, _, _, _]) ?_
    refine s_skip (wan_f (dj := 17) rfl rfl rfl) (rfl : _ = [_, _, _, _, _, _, _, _, _, _, _, _, _, _, _, _, _, _, _, _, _, _, _, _, _, _, _, _, _, _, _]) ?_
    refine s_skip (wan_f (dj := 17) rfl rfl rfl) (rfl : _ = [_, _, _, _, _, _, _, _, _, _, _, _, _, _, _, _, _, _, _, _, _, _, _, _, _, _, _, _, _, _, _]) ?_
    refine s_skip (wan_f (dj := 17) rfl rfl rfl) (rfl : _ = [_, _, _, _, _, _, _, _, _, _, _, _, _, _, _, _, _, _, _, _, _, _, _, _, _, _, _, _, _, _, _]) ?_
    refine s_val (v := (.bool false)) rfl (r_pick rfl rfl) (rfl : _ = [_, _, _, _, _, _, _, _, _, _, _, _, _, _, _, _, _, _, _, _, _, _, _, _, _, _, _, _, _, _, _]) ?_
    refine s_val (v := (.bool false)) rfl (r_move rfl) (rfl : _ = [_, _, _, _, _, _, _, _, _, _, _, _, _, _, _, _, _, _, _, _, _, _, _, _, _, _, _, _, _, _, _]) ?_
    refine s_skip (wan_f (dj := 24) rfl rfl rfl) (rfl : _ = [_, _, _, _, _, _, _, _, _, _, _, _, _, _, _, _, _, _, _, _, _, _, _, _, _, _, _, _, _, _, _]) ?_
    refine s_skip (wan_f (dj := 24) rfl rfl rfl) (rfl : _ = [_, _, _, _, _, _, _, _, _, _, _, _, _, _, _, _, _, _, _, _, _, _, _, _, _, _, _, _, _, _, _]) ?_
    refine s_skip (wan_f (dj := 24) rfl rfl rfl) (rfl : _ = [_, _, _, _, _, _, _, _, _, _, _, _, _, _, _, _, _, _, _, _, _, _, _, _, _, _, _, _, _, _, _]) ?_
    refine s_skip (wan_f (dj := 24) rfl rfl rfl) (rfl : _ = [_, _, _, _, _, _, _, _, _, _, _, _, _, _, _, _, _, _, _, _, _, _, _, _, _, _, _, _, _, _, _]) ?_
    refine s_skip (wan_f (dj := 24) rfl rfl rfl) (rfl : _ = [_, _, _, _, _, _, _, _, _, _, _, _, _, _, _, _, _, _, _, _, _, _, _, _, _, _, _, _, _, _, _]) ?_
    refine s_val (v := (.bool false)) rfl (r_pick rfl rfl) (rfl : _ = [_, _, _, _, _, _, _, _, _, _, _, _, _, _, _, _, _, _, _, _, _, _, _, _, _, _, _, _, _, _, _]) ?_
    refine s_val (v := (.bool false)) rfl (r_assign rfl) (rfl : _ = [_, _, _, _, _, _, _, _, _, _, _, _, _, _, _, _, _, _, _, _, _, _, _, _, _, _, _, _, _, _, _]) ?_
    refine s_nil rfl ?_
    refine x_seq ?_
    refine c_ret ?_
    refine post_ret rfl rfl ?_
    exact ⟨ret_no (fun hh => by first | exact absurd (congrArg Seal.token hh) (by first | assumption | (subst_vars; assumption)) | exact absurd (congrArg Seal.cart hh) (by first | assumption | (subst_vars; assumption)) | exact absurd (congrArg Seal.epoch hh) (by first | assumption | (subst_vars; assumption)) | exact absurd (congrArg Seal.cut hh) (by first | assumption | (subst_vars; assumption))), hb⟩

theorem sameEnt_c {ok ok2 : Nat → Prop} {w : World} {d e : Value} {a b : Ent} (hS : Sl kInt ok w d a.sl.cut) (hT : Sl kInt ok2 w e b.sl.cut) :
    CallsV Try.prog 18 #[(.agg #[.bool a.noop, .string a.sl.token, .string a.sl.cart, .int .i64 a.sl.epoch, d]), (.agg #[.bool b.noop, .string b.sl.token, .string b.sl.cart, .int .i64 b.sl.epoch, e])] w (fun r w' => r = .bool (toB (a = b)) ∧ Bel w w') := by
  have hb := Bel.refl w
  replace hS : Sl kInt (Rg w.heap.size 0 0) w d a.sl.cut := hS.weak (by decide) (fun b _ hl => .inl hl)
  have hSlim := lim_le hS.lim
  replace hT : Sl kInt (Rg w.heap.size 0 0) w e b.sl.cut := hT.weak (by decide) (fun b _ hl => .inl hl)
  have hTlim := lim_le hT.lim
  refine callsV_of Try.func18 (m := 15) Try.ntmps18 rfl rfl (l := [.agg #[.bool a.noop, .string a.sl.token, .string a.sl.cart, .int .i64 a.sl.epoch, d], .agg #[.bool b.noop, .string b.sl.token, .string b.sl.cart, .int .i64 b.sl.epoch, e], undef, undef, undef, undef, undef, undef, undef, undef, undef, undef, undef, undef, undef, undef, undef]) rfl ?_
  refine c_seq ?_
  refine c_region ?_
  refine s_box (v := (.agg #[.bool a.noop, .string a.sl.token, .string a.sl.cart, .int .i64 a.sl.epoch, d])) 27 _ rfl rfl ?_
  intro a1 w2 he3 hB4 hc5 hz6
  refine norm (rfl : _ = [_, _, _, _, _, _, _, _, _, _, _, _, _, _, _, _, _]) ?_
  have hs7 := hc5.size
  replace hb := hb.chg hc5 (by omega)
  refine s_box (v := (.agg #[.bool b.noop, .string b.sl.token, .string b.sl.cart, .int .i64 b.sl.epoch, e])) 27 _ rfl rfl ?_
  intro a8 w9 he10 hB11 hc12 hz13
  refine norm (rfl : _ = [_, _, _, _, _, _, _, _, _, _, _, _, _, _, _, _, _]) ?_
  have hs14 := hc12.size
  replace hb := hb.chg hc12 (by omega)
  replace hB4 := hB4.chg hc12 (by omega)
  refine s_val (v := (.bool false)) rfl (r_assign rfl) (rfl : _ = [_, _, _, _, _, _, _, _, _, _, _, _, _, _, _, _, _]) ?_
  refine s_nil rfl ?_
  refine x_seq ?_
  refine c_seq ?_
  refine c_region ?_
  refine s_val (v := (.pointer (some ⟨a1, 0, none⟩))) rfl (r_field (k := 0) (o := 0) (by kernel_rfl) rfl) (rfl : _ = [_, _, _, _, _, _, _, _, _, _, _, _, _, _, _, _, _]) ?_
  refine s_boolv rfl (r_load rfl (Ld.one Try.underlying4 rfl (hB4.cell (i := 0) rfl))) ?_
  intro b15 hb15
  refine norm (rfl : _ = [_, _, _, _, _, _, _, _, _, _, _, _, _, _, _, _, _]) ?_
  refine s_val (v := (.pointer (some ⟨a8, 0, none⟩))) rfl (r_field (k := 0) (o := 0) (by kernel_rfl) rfl) (rfl : _ = [_, _, _, _, _, _, _, _, _, _, _, _, _, _, _, _, _]) ?_
  refine s_boolv rfl (r_load rfl (Ld.one Try.underlying4 rfl (hB11.cell (i := 0) rfl))) ?_
  intro b16 hb16
  refine norm (rfl : _ = [_, _, _, _, _, _, _, _, _, _, _, _, _, _, _, _, _]) ?_
  refine s_bool (p := (b15 = b16 : Prop)) rfl (r_eqb Try.underlying4 rfl rfl) eqb_iff ?_
  intro b17 hb17
  refine norm (rfl : _ = [_, _, _, _, _, _, _, _, _, _, _, _, _, _, _, _, _]) ?_
  refine s_val (v := (.bool b17)) rfl (r_move rfl) (rfl : _ = [_, _, _, _, _, _, _, _, _, _, _, _, _, _, _, _, _]) ?_
  cases b17 with
  | true =>
    replace hb17 := bt hb17
    refine s_val (v := (.pointer (some ⟨a1, 1, none⟩))) (wan_t (dj := 10) rfl rfl) (r_field (k := 1) (o := 0) (by kernel_rfl) rfl) (rfl : _ = [_, _, _, _, _, _, _, _, _, _, _, _, _, _, _, _, _]) ?_
    refine s_val (v := (.agg #[.string a.sl.token, .string a.sl.cart, .int .i64 a.sl.epoch, d])) (wan_t (dj := 10) rfl rfl) (r_load rfl (Ld.row (cs := [.string a.sl.token, .string a.sl.cart, .int .i64 a.sl.epoch, d]) Try.underlying25 rfl (by kernel_rfl) (hB4.range 1 rfl))) (rfl : _ = [_, _, _, _, _, _, _, _, _, _, _, _, _, _, _, _, _]) ?_
    refine s_val (v := (.pointer (some ⟨a8, 1, none⟩))) (wan_t (dj := 10) rfl rfl) (r_field (k := 1) (o := 0) (by kernel_rfl) rfl) (rfl : _ = [_, _, _, _, _, _, _, _, _, _, _, _, _, _, _, _, _]) ?_
    refine s_val (v := (.agg #[.string b.sl.token, .string b.sl.cart, .int .i64 b.sl.epoch, e])) (wan_t (dj := 10) rfl rfl) (r_load rfl (Ld.row (cs := [.string b.sl.token, .string b.sl.cart, .int .i64 b.sl.epoch, e]) Try.underlying25 rfl (by kernel_rfl) (hB11.range 1 rfl))) (rfl : _ = [_, _, _, _, _, _, _, _, _, _, _, _, _, _, _, _, _]) ?_
    refine s_callb 52 _ _ (by kernel_rfl) (wan_t (dj := 10) rfl rfl) rfl (sameSeal_c (a := a.sl) (b := b.sl) (hS.at_ hb) (hT.at_ hb)) ?_
    intro b18 w19 hb18 hb20
    refine norm (rfl : _ = [_, _, _, _, _, _, _, _, _, _, _, _, _, _, _, _, _]) ?_
    have hc21 := Chg.of_bel hb20
    have hs22 := hc21.size
    replace hb := hb.chg hc21 (by omega)
    replace hB4 := hB4.chg hc21 (by omega)
    replace hB11 := hB11.chg hc21 (by omega)
    refine s_val (v := (.bool b18)) rfl (r_pick rfl rfl) (rfl : _ = [_, _, _, _, _, _, _, _, _, _, _, _, _, _, _, _, _]) ?_
    refine s_val (v := (.bool b18)) rfl (r_assign rfl) (rfl : _ = [_, _, _, _, _, _, _, _, _, _, _, _, _, _, _, _, _]) ?_
    refine s_nil rfl ?_
    refine x_seq ?_
    refine c_ret ?_
    refine post_ret rfl rfl ?_
    cases b18 with
    | true =>
      replace hb18 := toB_t hb18
      exact ⟨ret_yes (Ent.ext (by first | assumption | (subst_vars; assumption)) (by first | assumption | (subst_vars; assumption))), hb⟩
    | false =>
      replace hb18 := toB_f hb18
      exact ⟨ret_no (fun hh => by first | exact absurd (congrArg Ent.noop hh) (by first | assumption | (subst_vars; assumption)) | exact absurd (congrArg Ent.sl hh) (by first | assumption | (subst_vars; assumption))), hb⟩
  | false =>
    replace hb17 := bf hb17
    refine s_skip (wan_f (dj := 10) rfl rfl rfl) (rfl : _ = [_, _, _, _, _, _, _, _, _, _, _, _, _, _, _, _, _]) ?_
    refine s_skip (wan_f (dj := 10) rfl rfl rfl) (rfl : _ = [_, _, _, _, _, _, _, _, _, _, _, _, _, _, _, _, _]) ?_
    refine s_skip (wan_f (dj := 10) rfl rfl rfl) (rfl : _ = [_, _, _, _, _, _, _, _, _, _, _, _, _, _, _, _, _]) ?_
    refine s_skip (wan_f (dj := 10) rfl rfl rfl) (rfl : _ = [_, _, _, _, _, _, _, _, _, _, _, _, _, _, _, _, _]) ?_
    refine s_skip (wan_f (dj := 10) rfl rfl rfl) (rfl : _ = [_, _, _, _, _, _, _, _, _, _, _, _, _, _, _, _, _]) ?_
    refine s_val (v := (.bool false)) rfl (r_pick rfl rfl) (rfl : _ = [_, _, _, _, _, _, _, _, _, _, _, _, _, _, _, _, _]) ?_
    refine s_val (v := (.bool false)) rfl (r_assign rfl) (rfl : _ = [_, _, _, _, _, _, _, _, _, _, _, _, _, _, _, _, _]) ?_
    refine s_nil rfl ?_
    refine x_seq ?_
    refine c_ret ?_
    refine post_ret rfl rfl ?_
    exact ⟨ret_no (fun hh => by first | exact absurd (congrArg Ent.noop hh) (by first | assumption | (subst_vars; assumption)) | exact absurd (congrArg Ent.sl hh) (by first | assumption | (subst_vars; assumption))), hb⟩

end Go.Proofs.Ytailhdcackkegaa.Wd

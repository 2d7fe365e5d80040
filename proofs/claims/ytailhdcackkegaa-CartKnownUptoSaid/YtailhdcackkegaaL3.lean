/- cart.Cut; pannierlaw11.CartKnown, CartPieces: they tell true. -/
import Derived.Test.YtailhdcackkegaaL2
import Derived.Test.YtailhdcackkegaaP2
namespace Go.Proofs.Ytailhdcackkegaa.Wd
open Go.RowKit
set_option linter.unusedVariables false
set_option linter.unusedSimpArgs false

theorem ok_two {x y : Ev} (h : okEv x) (k : okEv y) : ∀ e ∈ [x, y], okEv e := by
  intro e he
  simp only [List.mem_cons, List.not_mem_nil, or_false] at he
  rcases he with rfl | rfl
  · exact h
  · exact k
theorem ok_filter {l : List Ev} (h : ∀ e ∈ l, okEv e) (p : Ev → Bool) : ∀ e ∈ l.filter p, okEv e := fun e he => h e (List.mem_filter.1 he).1
theorem tot_ok {l : List Ev} (h : ∀ e ∈ l, okEv e) (hl : l.length ≤ 1048576) (c : ByteArray) : ∀ x ∈ linesL l c, 0 ≤ x.qty ∧ x.qty ≤ 4294967296 := fun x hx => by have := lines_mem h c x hx; omega
theorem totn_ok {l : List Ev} (hl : l.length ≤ 1048576) (c : ByteArray) : (linesL l c).length ≤ 1073741824 := by have := lines_len l c; omega

theorem cartKnown_c {w : World} (name sku : ByteArray) (a b : Int) (seen : Bool) (hsk : sku.size ≤ maxLen) :
    CallsV Try.prog 5 #[(.string name), (.string sku), (.int .i64 a), (.int .i64 b), (.bool seen)] w (fun r w' => r = .bool true ∧ Bel w w') := by
  have hb := Bel.refl w
  refine callsV_of Try.func5 (m := 62) Try.ntmps5 rfl rfl (l := [.string name, .string sku, .int .i64 a, .int .i64 b, .bool seen, undef, undef, undef, undef, undef, undef, undef, undef, undef, undef, undef, undef, undef, undef, undef, undef, undef, undef, undef, undef, undef, undef, undef, undef, undef, undef, undef, undef, undef, undef, undef, undef, undef, undef, undef, undef, undef, undef, undef, undef, undef, undef, undef, undef, undef, undef, undef, undef, undef, undef, undef, undef, undef, undef, undef, undef, undef, undef, undef, undef, undef, undef]) rfl ?_
  refine c_seq ?_
  refine c_region ?_
  refine s_val (v := (.bool false)) rfl (r_assign rfl) (rfl : _ = [_, _, _, _, _, _, _, _, _, _, _, _, _, _, _, _, _, _, _, _, _, _, _, _, _, _, _, _, _, _, _, _, _, _, _, _, _, _, _, _, _, _, _, _, _, _, _, _, _, _, _, _, _, _, _, _, _, _, _, _, _, _, _, _, _, _, _]) ?_
  refine s_nil rfl ?_
  refine x_seq ?_
  refine c_seq ?_
  refine c_seq ?_
  refine c_region ?_
  refine s_call 19 _ _ (by kernel_rfl) rfl rfl (lives11_c) ?_
  rintro _ w1 ⟨rfl, hb2⟩
  refine norm (rfl : _ = [_, _, _, _, _, _, _, _, _, _, _, _, _, _, _, _, _, _, _, _, _, _, _, _, _, _, _, _, _, _, _, _, _, _, _, _, _, _, _, _, _, _, _, _, _, _, _, _, _, _, _, _, _, _, _, _, _, _, _, _, _, _, _, _, _, _, _]) ?_
  have hc3 := Chg.of_bel hb2
  have hs4 := hc3.size
  replace hb := hb.chg hc3 (by omega)
  refine s_val rfl (r_not rfl rfl) (rfl : _ = [_, _, _, _, _, _, _, _, _, _, _, _, _, _, _, _, _, _, _, _, _, _, _, _, _, _, _, _, _, _, _, _, _, _, _, _, _, _, _, _, _, _, _, _, _, _, _, _, _, _, _, _, _, _, _, _, _, _, _, _, _, _, _, _, _, _, _]) ?_
  refine s_nil rfl ?_
  refine x_seq ?_
  refine c_cond rfl (fun hh => by cases hh) (fun _ => ?_)
  refine c_skip ?_
  refine x_seq ?_
  refine c_seq ?_
  refine c_seq ?_
  refine c_region ?_
  refine s_val (v := (.int .i64 a)) rfl (r_move rfl) (rfl : _ = [_, _, _, _, _, _, _, _, _, _, _, _, _, _, _, _, _, _, _, _, _, _, _, _, _, _, _, _, _, _, _, _, _, _, _, _, _, _, _, _, _, _, _, _, _, _, _, _, _, _, _, _, _, _, _, _, _, _, _, _, _, _, _, _, _, _, _]) ?_
  refine s_bool (p := (a < 1 : Prop)) rfl (r_lss rfl rfl) decide_eq_true_iff ?_
  intro b5 hb5
  refine norm (rfl : _ = [_, _, _, _, _, _, _, _, _, _, _, _, _, _, _, _, _, _, _, _, _, _, _, _, _, _, _, _, _, _, _, _, _, _, _, _, _, _, _, _, _, _, _, _, _, _, _, _, _, _, _, _, _, _, _, _, _, _, _, _, _, _, _, _, _, _, _]) ?_
  refine s_val (v := (.bool b5)) rfl (r_move rfl) (rfl : _ = [_, _, _, _, _, _, _, _, _, _, _, _, _, _, _, _, _, _, _, _, _, _, _, _, _, _, _, _, _, _, _, _, _, _, _, _, _, _, _, _, _, _, _, _, _, _, _, _, _, _, _, _, _, _, _, _, _, _, _, _, _, _, _, _, _, _, _]) ?_
  cases b5 with
  | true =>
    replace hb5 := bt hb5
    refine s_skip (wan_f (dj := 18) rfl rfl rfl) (rfl : _ = [_, _, _, _, _, _, _, _, _, _, _, _, _, _, _, _, _, _, _, _, _, _, _, _, _, _, _, _, _, _, _, _, _, _, _, _, _, _, _, _, _, _, _, _, _, _, _, _, _, _, _, _, _, _, _, _, _, _, _, _, _, _, _, _, _, _, _]) ?_
    refine s_skip (wan_f (dj := 18) rfl rfl rfl) (rfl : _ = [_, _, _, _, _, _, _, _, _, _, _, _, _, _, _, _, _, _, _, _, _, _, _, _, _, _, _, _, _, _, _, _, _, _, _, _, _, _, _, _, _, _, _, _, _, _, _, _, _, _, _, _, _, _, _, _, _, _, _, _, _, _, _, _, _, _, _]) ?_
    refine s_val (v := (.bool true)) rfl (r_pick rfl rfl) (rfl : _ = [_, _, _, _, _, _, _, _, _, _, _, _, _, _, _, _, _, _, _, _, _, _, _, _, _, _, _, _, _, _, _, _, _, _, _, _, _, _, _, _, _, _, _, _, _, _, _, _, _, _, _, _, _, _, _, _, _, _, _, _, _, _, _, _, _, _, _]) ?_
    refine s_val (v := (.bool true)) rfl (r_move rfl) (rfl : _ = [_, _, _, _, _, _, _, _, _, _, _, _, _, _, _, _, _, _, _, _, _, _, _, _, _, _, _, _, _, _, _, _, _, _, _, _, _, _, _, _, _, _, _, _, _, _, _, _, _, _, _, _, _, _, _, _, _, _, _, _, _, _, _, _, _, _, _]) ?_
    refine s_skip (wan_f (dj := 22) rfl rfl rfl) (rfl : _ = [_, _, _, _, _, _, _, _, _, _, _, _, _, _, _, _, _, _, _, _, _, _, _, _, _, _, _, _, _, _, _, _, _, _, _, _, _, _, _, _, _, _, _, _, _, _, _, _, _, _, _, _, _, _, _, _, _, _, _, _, _, _, _, _, _, _, _]) ?_
    refine s_skip (wan_f (dj := 22) rfl rfl rfl) (rfl : _ = [_, _, _, _, _, _, _, _, _, _, _, _, _, _, _, _, _, _, _, _, _, _, _, _, _, _, _, _, _, _, _, _, _, _, _, _, _, _, _, _, _, _, _, _, _, _, _, _, _, _, _, _, _, _, _, _, _, _, _, _, _, _, _, _, _, _, _]) ?_
    refine s_val (v := (.bool true)) rfl (r_pick rfl rfl) (rfl : _ = [_, _, _, _, _, _, _, _, _, _, _, _, _, _, _, _, _, _, _, _, _, _, _, _, _, _, _, _, _, _, _, _, _, _, _, _, _, _, _, _, _, _, _, _, _, _, _, _, _, _, _, _, _, _, _, _, _, _, _, _, _, _, _, _, _, _, _]) ?_
    refine s_val (v := (.bool true)) rfl (r_move rfl) (rfl : _ = [_, _, _, _, _, _, _, _, _, _, _, _, _, _, _, _, _, _, _, _, _, _, _, _, _, _, _, _, _, _, _, _, _, _, _, _, _, _, _, _, _, _, _, _, _, _, _, _, _, _, _, _, _, _, _, _, _, _, _, _, _, _, _, _, _, _, _]) ?_
    refine s_skip (wan_f (dj := 26) rfl rfl rfl) (rfl : _ = [_, _, _, _, _, _, _, _, _, _, _, _, _, _, _, _, _, _, _, _, _, _, _, _, _, _, _, _, _, _, _, _, _, _, _, _, _, _, _, _, _, _, _, _, _, _, _, _, _, _, _, _, _, _, _, _, _, _, _, _, _, _, _, _, _, _, _]) ?_
    refine s_skip (wan_f (dj := 26) rfl rfl rfl) (rfl : _ = [_, _, _, _, _, _, _, _, _, _, _, _, _, _, _, _, _, _, _, _, _, _, _, _, _, _, _, _, _, _, _, _, _, _, _, _, _, _, _, _, _, _, _, _, _, _, _, _, _, _, _, _, _, _, _, _, _, _, _, _, _, _, _, _, _, _, _]) ?_
    refine s_val (v := (.bool true)) rfl (r_pick rfl rfl) (rfl : _ = [_, _, _, _, _, _, _, _, _, _, _, _, _, _, _, _, _, _, _, _, _, _, _, _, _, _, _, _, _, _, _, _, _, _, _, _, _, _, _, _, _, _, _, _, _, _, _, _, _, _, _, _, _, _, _, _, _, _, _, _, _, _, _, _, _, _, _]) ?_
    refine s_nil rfl ?_
    refine x_seq ?_
    refine c_cond rfl (fun _ => ?_) (fun hh => by cases hh)
    refine c_seq ?_
    refine c_region ?_
    refine s_val (v := (.bool true)) rfl (r_assign rfl) (rfl : _ = [_, _, _, _, _, _, _, _, _, _, _, _, _, _, _, _, _, _, _, _, _, _, _, _, _, _, _, _, _, _, _, _, _, _, _, _, _, _, _, _, _, _, _, _, _, _, _, _, _, _, _, _, _, _, _, _, _, _, _, _, _, _, _, _, _, _, _]) ?_
    refine s_nil rfl ?_
    refine x_seq ?_
    refine c_ret ?_
    refine x_then_ret ?_
    refine post_ret rfl rfl ?_
    exact ⟨rfl, hb⟩
  | false =>
    replace hb5 := bf hb5
    refine s_val (v := (.int .i64 a)) (wan_t (dj := 18) rfl rfl) (r_move rfl) (rfl : _ = [_, _, _, _, _, _, _, _, _, _, _, _, _, _, _, _, _, _, _, _, _, _, _, _, _, _, _, _, _, _, _, _, _, _, _, _, _, _, _, _, _, _, _, _, _, _, _, _, _, _, _, _, _, _, _, _, _, _, _, _, _, _, _, _, _, _, _]) ?_
    refine s_bool (p := (1000 < a : Prop)) (wan_t (dj := 18) rfl rfl) (r_gtr rfl rfl) decide_eq_true_iff ?_
    intro b6 hb6
    refine norm (rfl : _ = [_, _, _, _, _, _, _, _, _, _, _, _, _, _, _, _, _, _, _, _, _, _, _, _, _, _, _, _, _, _, _, _, _, _, _, _, _, _, _, _, _, _, _, _, _, _, _, _, _, _, _, _, _, _, _, _, _, _, _, _, _, _, _, _, _, _, _]) ?_
    refine s_val (v := (.bool b6)) rfl (r_pick rfl rfl) (rfl : _ = [_, _, _, _, _, _, _, _, _, _, _, _, _, _, _, _, _, _, _, _, _, _, _, _, _, _, _, _, _, _, _, _, _, _, _, _, _, _, _, _, _, _, _, _, _, _, _, _, _, _, _, _, _, _, _, _, _, _, _, _, _, _, _, _, _, _, _]) ?_
    refine s_val (v := (.bool b6)) rfl (r_move rfl) (rfl : _ = [_, _, _, _, _, _, _, _, _, _, _, _, _, _, _, _, _, _, _, _, _, _, _, _, _, _, _, _, _, _, _, _, _, _, _, _, _, _, _, _, _, _, _, _, _, _, _, _, _, _, _, _, _, _, _, _, _, _, _, _, _, _, _, _, _, _, _]) ?_
    cases b6 with
    | true =>
      replace hb6 := bt hb6
      refine s_skip (wan_f (dj := 22) rfl rfl rfl) (rfl : _ = [_, _, _, _, _, _, _, _, _, _, _, _, _, _, _, _, _, _, _, _, _, _, _, _, _, _, _, _, _, _, _, _, _, _, _, _, _, _, _, _, _, _, _, _, _, _, _, _, _, _, _, _, _, _, _, _, _, _, _, _, _, _, _, _, _, _, _]) ?_
      refine s_skip (wan_f (dj := 22) rfl rfl rfl) (rfl : _ = [_, _, _, _, _, _, _, _, _, _, _, _, _, _, _, _, _, _, _, _, _, _, _, _, _, _, _, _, _, _, _, _, _, _, _, _, _, _, _, _, _, _, _, _, _, _, _, _, _, _, _, _, _, _, _, _, _, _, _, _, _, _, _, _, _, _, _]) ?_
      refine s_val (v := (.bool true)) rfl (r_pick rfl rfl) (rfl : _ = [_, _, _, _, _, _, _, _, _, _, _, _, _, _, _, _, _, _, _, _, _, _, _, _, _, _, _, _, _, _, _, _, _, _, _, _, _, _, _, _, _, _, _, _, _, _, _, _, _, _, _, _, _, _, _, _, _, _, _, _, _, _, _, _, _, _, _]) ?_
      refine s_val (v := (.bool true)) rfl (r_move rfl) (rfl : _ = [_, _, _, _, _, _, _, _, _, _, _, _, _, _, _, _, _, _, _, _, _, _, _, _, _, _, _, _, _, _, _, _, _, _, _, _, _, _, _, _, _, _, _, _, _, _, _, _, _, _, _, _, _, _, _, _, _, _, _, _, _, _, _, _, _, _, _]) ?_
      refine s_skip (wan_f (dj := 26) rfl rfl rfl) (rfl : _ = [_, _, _, _, _, _, _, _, _, _, _, _, _, _, _, _, _, _, _, _, _, _, _, _, _, _, _, _, _, _, _, _, _, _, _, _, _, _, _, _, _, _, _, _, _, _, _, _, _, _, _, _, _, _, _, _, _, _, _, _, _, _, _, _, _, _, _]) ?_
      refine s_skip (wan_f (dj := 26) rfl rfl rfl) (rfl : _ = [_, _, _, _, _, _, _, _, _, _, _, _, _, _, _, _, _, _, _, _, _, _, _, _, _, _, _, _, _, _, _, _, _, _, _, _, _, _, _, _, _, _, _, _, _, _, _, _, _, _, _, _, _, _, _, _, _, _, _, _, _, _, _, _, _, _, _]) ?_
      refine s_val (v := (.bool true)) rfl (r_pick rfl rfl) (rfl : _ = [_, _, _, _, _, _, _, _, _, _, _, _, _, _, _, _, _, _, _, _, _, _, _, _, _, _, _, _, _, _, _, _, _, _, _, _, _, _, _, _, _, _, _, _, _, _, _, _, _, _, _, _, _, _, _, _, _, _, _, _, _, _, _, _, _, _, _]) ?_
      refine s_nil rfl ?_
      refine x_seq ?_
      refine c_cond rfl (fun _ => ?_) (fun hh => by cases hh)
      refine c_seq ?_
      refine c_region ?_
      refine s_val (v := (.bool true)) rfl (r_assign rfl) (rfl : _ = [_, _, _, _, _, _, _, _, _, _, _, _, _, _, _, _, _, _, _, _, _, _, _, _, _, _, _, _, _, _, _, _, _, _, _, _, _, _, _, _, _, _, _, _, _, _, _, _, _, _, _, _, _, _, _, _, _, _, _, _, _, _, _, _, _, _, _]) ?_
      refine s_nil rfl ?_
      refine x_seq ?_
      refine c_ret ?_
      refine x_then_ret ?_
      refine post_ret rfl rfl ?_
      exact ⟨rfl, hb⟩
    | false =>
      replace hb6 := bf hb6
      refine s_val (v := (.int .i64 b)) (wan_t (dj := 22) rfl rfl) (r_move rfl) (rfl : _ = [_, _, _, _, _, _, _, _, _, _, _, _, _, _, _, _, _, _, _, _, _, _, _, _, _, _, _, _, _, _, _, _, _, _, _, _, _, _, _, _, _, _, _, _, _, _, _, _, _, _, _, _, _, _, _, _, _, _, _, _, _, _, _, _, _, _, _]) ?_
      refine s_bool (p := (b < 1 : Prop)) (wan_t (dj := 22) rfl rfl) (r_lss rfl rfl) decide_eq_true_iff ?_
      intro b7 hb7
      refine norm (rfl : _ = [_, _, _, _, _, _, _, _, _, _, _, _, _, _, _, _, _, _, _, _, _, _, _, _, _, _, _, _, _, _, _, _, _, _, _, _, _, _, _, _, _, _, _, _, _, _, _, _, _, _, _, _, _, _, _, _, _, _, _, _, _, _, _, _, _, _, _]) ?_
      refine s_val (v := (.bool b7)) rfl (r_pick rfl rfl) (rfl : _ = [_, _, _, _, _, _, _, _, _, _, _, _, _, _, _, _, _, _, _, _, _, _, _, _, _, _, _, _, _, _, _, _, _, _, _, _, _, _, _, _, _, _, _, _, _, _, _, _, _, _, _, _, _, _, _, _, _, _, _, _, _, _, _, _, _, _, _]) ?_
      refine s_val (v := (.bool b7)) rfl (r_move rfl) (rfl : _ = [_, _, _, _, _, _, _, _, _, _, _, _, _, _, _, _, _, _, _, _, _, _, _, _, _, _, _, _, _, _, _, _, _, _, _, _, _, _, _, _, _, _, _, _, _, _, _, _, _, _, _, _, _, _, _, _, _, _, _, _, _, _, _, _, _, _, _]) ?_
      cases b7 with
      | true =>
        replace hb7 := bt hb7
        refine s_skip (wan_f (dj := 26) rfl rfl rfl) (rfl : _ = [_, _, _, _, _, _, _, _, _, _, _, _, _, _, _, _, _, _, _, _, _, _, _, _, _, _, _, _, _, _, _, _, _, _, _, _, _, _, _, _, _, _, _, _, _, _, _, _, _, _, _, _, _, _, _, _, _, _, _, _, _, _, _, _, _, _, _]) ?_
        refine s_skip (wan_f (dj := 26) rfl rfl rfl) (rfl : _ = [_, _, _, _, _, _, _, _, _, _, _, _, _, _, _, _, _, _, _, _, _, _, _, _, _, _, _, _, _, _, _, _, _, _, _, _, _, _, _, _, _, _, _, _, _, _, _, _, _, _, _, _, _, _, _, _, _, _, _, _, _, _, _, _, _, _, _]) ?_
        refine s_val (v := (.bool true)) rfl (r_pick rfl rfl) (rfl : _ = [_, _, _, _, _, _, _, _, _, _, _, _, _, _, _, _, _, _, _, _, _, _, _, _, _, _, _, _, _, _, _, _, _, _, _, _, _, _, _, _, _, _, _, _, _, _, _, _, _, _, _, _, _, _, _, _, _, _, _, _, _, _, _, _, _, _, _]) ?_
        refine s_nil rfl ?_
        refine x_seq ?_
        refine c_cond rfl (fun _ => ?_) (fun hh => by cases hh)
        refine c_seq ?_
        refine c_region ?_
        refine s_val (v := (.bool true)) rfl (r_assign rfl) (rfl : _ = [_, _, _, _, _, _, _, _, _, _, _, _, _, _, _, _, _, _, _, _, _, _, _, _, _, _, _, _, _, _, _, _, _, _, _, _, _, _, _, _, _, _, _, _, _, _, _, _, _, _, _, _, _, _, _, _, _, _, _, _, _, _, _, _, _, _, _]) ?_
        refine s_nil rfl ?_
        refine x_seq ?_
        refine c_ret ?_
        refine x_then_ret ?_
        refine post_ret rfl rfl ?_
        exact ⟨rfl, hb⟩
      | false =>
        replace hb7 := bf hb7
        refine s_val (v := (.int .i64 b)) (wan_t (dj := 26) rfl rfl) (r_move rfl) (rfl : _ = [_, _, _, _, _, _, _, _, _, _, _, _, _, _, _, _, _, _, _, _, _, _, _, _, _, _, _, _, _, _, _, _, _, _, _, _, _, _, _, _, _, _, _, _, _, _, _, _, _, _, _, _, _, _, _, _, _, _, _, _, _, _, _, _, _, _, _]) ?_
        refine s_bool (p := (1000 < b : Prop)) (wan_t (dj := 26) rfl rfl) (r_gtr rfl rfl) decide_eq_true_iff ?_
        intro b8 hb8
        refine norm (rfl : _ = [_, _, _, _, _, _, _, _, _, _, _, _, _, _, _, _, _, _, _, _, _, _, _, _, _, _, _, _, _, _, _, _, _, _, _, _, _, _, _, _, _, _, _, _, _, _, _, _, _, _, _, _, _, _, _, _, _, _, _, _, _, _, _, _, _, _, _]) ?_
        refine s_val (v := (.bool b8)) rfl (r_pick rfl rfl) (rfl : _ = [_, _, _, _, _, _, _, _, _, _, _, _, _, _, _, _, _, _, _, _, _, _, _, _, _, _, _, _, _, _, _, _, _, _, _, _, _, _, _, _, _, _, _, _, _, _, _, _, _, _, _, _, _, _, _, _, _, _, _, _, _, _, _, _, _, _, _]) ?_
        refine s_nil rfl ?_
        refine x_seq ?_
        cases b8 with
        | true =>
          replace hb8 := bt hb8
          refine c_cond rfl (fun _ => ?_) (fun hh => by cases hh)
          refine c_seq ?_
          refine c_region ?_
          refine s_val (v := (.bool true)) rfl (r_assign rfl) (rfl : _ = [_, _, _, _, _, _, _, _, _, _, _, _, _, _, _, _, _, _, _, _, _, _, _, _, _, _, _, _, _, _, _, _, _, _, _, _, _, _, _, _, _, _, _, _, _, _, _, _, _, _, _, _, _, _, _, _, _, _, _, _, _, _, _, _, _, _, _]) ?_
          refine s_nil rfl ?_
          refine x_seq ?_
          refine c_ret ?_
          refine x_then_ret ?_
          refine post_ret rfl rfl ?_
          exact ⟨rfl, hb⟩
        | false =>
          replace hb8 := bf hb8
          refine c_cond rfl (fun hh => by cases hh) (fun _ => ?_)
          refine c_skip ?_
          refine x_seq ?_
          refine c_seq ?_
          refine c_region ?_
          refine s_val rfl (r_build (v := (.agg #[.int .i64 0, .int .i64 1])) rfl (by kernel_rfl)) (rfl : _ = [_, _, _, _, _, _, _, _, _, _, _, _, _, _, _, _, _, _, _, _, _, _, _, _, _, _, _, _, _, _, _, _, _, _, _, _, _, _, _, _, _, _, _, _, _, _, _, _, _, _, _, _, _, _, _, _, _, _, _, _, _, _, _, _, _, _, _]) ?_
          refine s_val (v := (.string name)) rfl (r_move rfl) (rfl : _ = [_, _, _, _, _, _, _, _, _, _, _, _, _, _, _, _, _, _, _, _, _, _, _, _, _, _, _, _, _, _, _, _, _, _, _, _, _, _, _, _, _, _, _, _, _, _, _, _, _, _, _, _, _, _, _, _, _, _, _, _, _, _, _, _, _, _, _]) ?_
          refine s_val (v := (.string sku)) rfl (r_move rfl) (rfl : _ = [_, _, _, _, _, _, _, _, _, _, _, _, _, _, _, _, _, _, _, _, _, _, _, _, _, _, _, _, _, _, _, _, _, _, _, _, _, _, _, _, _, _, _, _, _, _, _, _, _, _, _, _, _, _, _, _, _, _, _, _, _, _, _, _, _, _, _]) ?_
          refine s_val (v := (.int .i64 a)) rfl (r_move rfl) (rfl : _ = [_, _, _, _, _, _, _, _, _, _, _, _, _, _, _, _, _, _, _, _, _, _, _, _, _, _, _, _, _, _, _, _, _, _, _, _, _, _, _, _, _, _, _, _, _, _, _, _, _, _, _, _, _, _, _, _, _, _, _, _, _, _, _, _, _, _, _]) ?_
          refine s_val rfl (r_build (v := (.agg #[.int .i64 0, .int .i64 1, .slice none 0 0, .string name, .int .i64 0, .string sku, .int .i64 a, .bool true])) rfl (by kernel_rfl)) (rfl : _ = [_, _, _, _, _, _, _, _, _, _, _, _, _, _, _, _, _, _, _, _, _, _, _, _, _, _, _, _, _, _, _, _, _, _, _, _, _, _, _, _, _, _, _, _, _, _, _, _, _, _, _, _, _, _, _, _, _, _, _, _, _, _, _, _, _, _, _]) ?_
          refine s_alloc (z := (.agg #[.int .i64 0, .int .i64 0, .slice none 0 0, .string ⟨#[]⟩, .int .i64 0, .string ⟨#[]⟩, .int .i64 0, .bool false])) 39 (by kernel_rfl) rfl ?_
          intro a9 w10 he11 hB12 hc13 hz14
          refine norm (rfl : _ = [_, _, _, _, _, _, _, _, _, _, _, _, _, _, _, _, _, _, _, _, _, _, _, _, _, _, _, _, _, _, _, _, _, _, _, _, _, _, _, _, _, _, _, _, _, _, _, _, _, _, _, _, _, _, _, _, _, _, _, _, _, _, _, _, _, _, _]) ?_
          have hs15 := hc13.size
          replace hb := hb.chg hc13 (by omega)
          refine s_store (b := a9) (o := 0) (vs := [.int .i64 0, .int .i64 1, .slice none 0 0, .string name, .int .i64 0, .string sku, .int .i64 a, .bool true]) (cs := [.int .i64 0, .int .i64 0, .slice none 0 0, .string ⟨#[]⟩, .int .i64 0, .string ⟨#[]⟩, .int .i64 0, .bool false]) (cs' := [.int .i64 0, .int .i64 1, .slice none 0 0, .string name, .int .i64 0, .string sku, .int .i64 a, .bool true]) 39 _ _ rfl (v := (.agg #[.int .i64 0, .int .i64 1, .slice none 0 0, .string name, .int .i64 0, .string sku, .int .i64 a, .bool true])) rfl rfl rfl hB12 (by kernel_rfl) ⟨rfl, rfl, rfl, rfl, rfl, rfl, rfl, rfl, trivial⟩ (by simp) rfl ?_
          intro w16 hB17 hc18 hz19
          have hs20 := hc18.size
          replace hb := hb.chg hc18 (by omega)
          refine s_nil rfl ?_
          refine x_seq ?_
          refine c_seq ?_
          refine c_region ?_
          refine s_val rfl (r_build (v := (.agg #[.int .i64 1, .int .i64 1])) rfl (by kernel_rfl)) (rfl : _ = [_, _, _, _, _, _, _, _, _, _, _, _, _, _, _, _, _, _, _, _, _, _, _, _, _, _, _, _, _, _, _, _, _, _, _, _, _, _, _, _, _, _, _, _, _, _, _, _, _, _, _, _, _, _, _, _, _, _, _, _, _, _, _, _, _, _, _]) ?_
          refine s_val (v := (.string name)) rfl (r_move rfl) (rfl : _ = [_, _, _, _, _, _, _, _, _, _, _, _, _, _, _, _, _, _, _, _, _, _, _, _, _, _, _, _, _, _, _, _, _, _, _, _, _, _, _, _, _, _, _, _, _, _, _, _, _, _, _, _, _, _, _, _, _, _, _, _, _, _, _, _, _, _, _]) ?_
          refine s_val (v := (.string sku)) rfl (r_move rfl) (rfl : _ = [_, _, _, _, _, _, _, _, _, _, _, _, _, _, _, _, _, _, _, _, _, _, _, _, _, _, _, _, _, _, _, _, _, _, _, _, _, _, _, _, _, _, _, _, _, _, _, _, _, _, _, _, _, _, _, _, _, _, _, _, _, _, _, _, _, _, _]) ?_
          refine s_val (v := (.int .i64 b)) rfl (r_move rfl) (rfl : _ = [_, _, _, _, _, _, _, _, _, _, _, _, _, _, _, _, _, _, _, _, _, _, _, _, _, _, _, _, _, _, _, _, _, _, _, _, _, _, _, _, _, _, _, _, _, _, _, _, _, _, _, _, _, _, _, _, _, _, _, _, _, _, _, _, _, _, _]) ?_
          refine s_val rfl (r_build (v := (.agg #[.int .i64 1, .int .i64 1, .slice none 0 0, .string name, .int .i64 0, .string sku, .int .i64 b, .bool true])) rfl (by kernel_rfl)) (rfl : _ = [_, _, _, _, _, _, _, _, _, _, _, _, _, _, _, _, _, _, _, _, _, _, _, _, _, _, _, _, _, _, _, _, _, _, _, _, _, _, _, _, _, _, _, _, _, _, _, _, _, _, _, _, _, _, _, _, _, _, _, _, _, _, _, _, _, _, _]) ?_
          refine s_alloc (z := (.agg #[.int .i64 0, .int .i64 0, .slice none 0 0, .string ⟨#[]⟩, .int .i64 0, .string ⟨#[]⟩, .int .i64 0, .bool false])) 39 (by kernel_rfl) rfl ?_
          intro a21 w22 he23 hB24 hc25 hz26
          refine norm (rfl : _ = [_, _, _, _, _, _, _, _, _, _, _, _, _, _, _, _, _, _, _, _, _, _, _, _, _, _, _, _, _, _, _, _, _, _, _, _, _, _, _, _, _, _, _, _, _, _, _, _, _, _, _, _, _, _, _, _, _, _, _, _, _, _, _, _, _, _, _]) ?_
          have hs27 := hc25.size
          replace hb := hb.chg hc25 (by omega)
          replace hB17 := hB17.chg hc25 (by omega)
          refine s_store (b := a21) (o := 0) (vs := [.int .i64 1, .int .i64 1, .slice none 0 0, .string name, .int .i64 0, .string sku, .int .i64 b, .bool true]) (cs := [.int .i64 0, .int .i64 0, .slice none 0 0, .string ⟨#[]⟩, .int .i64 0, .string ⟨#[]⟩, .int .i64 0, .bool false]) (cs' := [.int .i64 1, .int .i64 1, .slice none 0 0, .string name, .int .i64 0, .string sku, .int .i64 b, .bool true]) 39 _ _ rfl (v := (.agg #[.int .i64 1, .int .i64 1, .slice none 0 0, .string name, .int .i64 0, .string sku, .int .i64 b, .bool true])) rfl rfl rfl hB24 (by kernel_rfl) ⟨rfl, rfl, rfl, rfl, rfl, rfl, rfl, rfl, trivial⟩ (by simp) rfl ?_
          intro w28 hB29 hc30 hz31
          have hs32 := hc30.size
          replace hb := hb.chg hc30 (by omega)
          replace hB17 := hB17.chg hc30 (by omega)
          refine s_nil rfl ?_
          refine x_seq ?_
          refine c_seq ?_
          refine c_region ?_
          refine s_val (v := (.int .i64 a)) rfl (r_move rfl) (rfl : _ = [_, _, _, _, _, _, _, _, _, _, _, _, _, _, _, _, _, _, _, _, _, _, _, _, _, _, _, _, _, _, _, _, _, _, _, _, _, _, _, _, _, _, _, _, _, _, _, _, _, _, _, _, _, _, _, _, _, _, _, _, _, _, _, _, _, _, _]) ?_
          refine s_val (v := (.int .i64 b)) rfl (r_move rfl) (rfl : _ = [_, _, _, _, _, _, _, _, _, _, _, _, _, _, _, _, _, _, _, _, _, _, _, _, _, _, _, _, _, _, _, _, _, _, _, _, _, _, _, _, _, _, _, _, _, _, _, _, _, _, _, _, _, _, _, _, _, _, _, _, _, _, _, _, _, _, _]) ?_
          refine s_val (v := (.int .i64 (a + b))) rfl (r_add (c := a + b) rfl rfl (i64_in (by omega) (by omega))) (rfl : _ = [_, _, _, _, _, _, _, _, _, _, _, _, _, _, _, _, _, _, _, _, _, _, _, _, _, _, _, _, _, _, _, _, _, _, _, _, _, _, _, _, _, _, _, _, _, _, _, _, _, _, _, _, _, _, _, _, _, _, _, _, _, _, _, _, _, _, _]) ?_
          refine s_val (v := (.int .i64 (a + b))) rfl (r_assign rfl) (rfl : _ = [_, _, _, _, _, _, _, _, _, _, _, _, _, _, _, _, _, _, _, _, _, _, _, _, _, _, _, _, _, _, _, _, _, _, _, _, _, _, _, _, _, _, _, _, _, _, _, _, _, _, _, _, _, _, _, _, _, _, _, _, _, _, _, _, _, _, _]) ?_
          refine s_nil rfl ?_
          refine x_seq ?_
          refine c_seq ?_
          refine c_seq ?_
          refine c_region ?_
          refine s_val (v := (.bool seen)) rfl (r_move rfl) (rfl : _ = [_, _, _, _, _, _, _, _, _, _, _, _, _, _, _, _, _, _, _, _, _, _, _, _, _, _, _, _, _, _, _, _, _, _, _, _, _, _, _, _, _, _, _, _, _, _, _, _, _, _, _, _, _, _, _, _, _, _, _, _, _, _, _, _, _, _, _]) ?_
          refine s_nil rfl ?_
          refine x_seq ?_
          cases seen with
          | true =>
            refine c_cond rfl (fun _ => ?_) (fun hh => by cases hh)
            refine c_seq ?_
            refine c_region ?_
            refine s_buildSlice (cs := [.int .i64 1]) (e := 3) 23 1 _ rfl rfl (by kernel_rfl) ?_
            intro a33 w34 he35 hB36 hc37 hz38
            refine norm (rfl : _ = [_, _, _, _, _, _, _, _, _, _, _, _, _, _, _, _, _, _, _, _, _, _, _, _, _, _, _, _, _, _, _, _, _, _, _, _, _, _, _, _, _, _, _, _, _, _, _, _, _, _, _, _, _, _, _, _, _, _, _, _, _, _, _, _, _, _, _]) ?_
            have hs39 := hc37.size
            replace hb := hb.chg hc37 (by omega)
            replace hB17 := hB17.chg hc37 (by omega)
            replace hB29 := hB29.chg hc37 (by omega)
            refine s_val (v := (.pointer (some ⟨a21, 2, none⟩))) rfl (r_field (k := 2) (o := 0) (by kernel_rfl) rfl) (rfl : _ = [_, _, _, _, _, _, _, _, _, _, _, _, _, _, _, _, _, _, _, _, _, _, _, _, _, _, _, _, _, _, _, _, _, _, _, _, _, _, _, _, _, _, _, _, _, _, _, _, _, _, _, _, _, _, _, _, _, _, _, _, _, _, _, _, _, _, _]) ?_
            have hO40 : OwnX kInt 3 0 a33 (a33 + 1) w34 (.slice (some ⟨a33, 0, none⟩) 1 1) [1] := OwnX.of_bx (ok := (fun _ => False)) hB36 (flat_one rfl) rfl (by simp [lim]) (by omega) (Nat.le_refl _) (by omega) (by omega) (fun _ hb _ => hb.elim)
            refine s_store (b := a21) (o := 2) (vs := [.slice (some ⟨a33, 0, none⟩) 1 1]) (cs := [.int .i64 1, .int .i64 1, .slice none 0 0, .string name, .int .i64 0, .string sku, .int .i64 b, .bool true]) (cs' := [.int .i64 1, .int .i64 1, .slice (some ⟨a33, 0, none⟩) 1 1, .string name, .int .i64 0, .string sku, .int .i64 b, .bool true]) 23 _ _ rfl (v := (.slice (some ⟨a33, 0, none⟩) 1 1)) rfl rfl hO40.sl.cells hB29 (by kernel_rfl) ⟨hO40.sl.one, trivial⟩ (by simp) rfl ?_
            intro w41 hB42 hc43 hz44
            have hs45 := hc43.size
            replace hb := hb.chg hc43 (by omega)
            replace hB17 := hB17.chg hc43 (by omega)
            replace hO40 := hO40.chg hc43 (by omega)
            refine s_nil rfl ?_
            refine x_seq ?_
            refine c_region ?_
            refine s_val (v := (.int .i64 b)) rfl (r_move rfl) (rfl : _ = [_, _, _, _, _, _, _, _, _, _, _, _, _, _, _, _, _, _, _, _, _, _, _, _, _, _, _, _, _, _, _, _, _, _, _, _, _, _, _, _, _, _, _, _, _, _, _, _, _, _, _, _, _, _, _, _, _, _, _, _, _, _, _, _, _, _, _]) ?_
            refine s_val (v := (.int .i64 b)) rfl (r_assign rfl) (rfl : _ = [_, _, _, _, _, _, _, _, _, _, _, _, _, _, _, _, _, _, _, _, _, _, _, _, _, _, _, _, _, _, _, _, _, _, _, _, _, _, _, _, _, _, _, _, _, _, _, _, _, _, _, _, _, _, _, _, _, _, _, _, _, _, _, _, _, _, _]) ?_
            refine s_nil rfl ?_
            refine x_seq ?_
            refine c_seq ?_
            refine c_region ?_
            refine s_val (v := (.agg #[.int .i64 0, .int .i64 1, .slice none 0 0, .string name, .int .i64 0, .string sku, .int .i64 a, .bool true])) rfl (r_load rfl (Ld.row (cs := [.int .i64 0, .int .i64 1, .slice none 0 0, .string name, .int .i64 0, .string sku, .int .i64 a, .bool true]) Try.underlying39 rfl (by kernel_rfl) (hB17.range 0 rfl))) (rfl : _ = [_, _, _, _, _, _, _, _, _, _, _, _, _, _, _, _, _, _, _, _, _, _, _, _, _, _, _, _, _, _, _, _, _, _, _, _, _, _, _, _, _, _, _, _, _, _, _, _, _, _, _, _, _, _, _, _, _, _, _, _, _, _, _, _, _, _, _]) ?_
            refine s_val (v := (.agg #[.int .i64 1, .int .i64 1, .slice (some ⟨a33, 0, none⟩) 1 1, .string name, .int .i64 0, .string sku, .int .i64 b, .bool true])) rfl (r_load rfl (Ld.row (cs := [.int .i64 1, .int .i64 1, .slice (some ⟨a33, 0, none⟩) 1 1, .string name, .int .i64 0, .string sku, .int .i64 b, .bool true]) Try.underlying39 rfl (by kernel_rfl) (hB42.range 0 rfl))) (rfl : _ = [_, _, _, _, _, _, _, _, _, _, _, _, _, _, _, _, _, _, _, _, _, _, _, _, _, _, _, _, _, _, _, _, _, _, _, _, _, _, _, _, _, _, _, _, _, _, _, _, _, _, _, _, _, _, _, _, _, _, _, _, _, _, _, _, _, _, _]) ?_
            refine s_buildSlice (cs := [.int .i64 0, .int .i64 1, .slice none 0 0, .string name, .int .i64 0, .string sku, .int .i64 a, .bool true, .int .i64 1, .int .i64 1, .slice (some ⟨a33, 0, none⟩) 1 1, .string name, .int .i64 0, .string sku, .int .i64 b, .bool true]) (e := 39) 34 2 _ rfl rfl (by kernel_rfl) ?_
            intro a46 w47 he48 hB49 hc50 hz51
            refine norm (rfl : _ = [_, _, _, _, _, _, _, _, _, _, _, _, _, _, _, _, _, _, _, _, _, _, _, _, _, _, _, _, _, _, _, _, _, _, _, _, _, _, _, _, _, _, _, _, _, _, _, _, _, _, _, _, _, _, _, _, _, _, _, _, _, _, _, _, _, _, _]) ?_
            have hs52 := hc50.size
            replace hb := hb.chg hc50 (by omega)
            replace hB17 := hB17.chg hc50 (by omega)
            replace hO40 := hO40.chg hc50 (by omega)
            replace hB42 := hB42.chg hc50 (by omega)
            refine s_val (v := (.string name)) rfl (r_move rfl) (rfl : _ = [_, _, _, _, _, _, _, _, _, _, _, _, _, _, _, _, _, _, _, _, _, _, _, _, _, _, _, _, _, _, _, _, _, _, _, _, _, _, _, _, _, _, _, _, _, _, _, _, _, _, _, _, _, _, _, _, _, _, _, _, _, _, _, _, _, _, _]) ?_
            have hO53 : OwnX kEv 39 a46 a46 (a46 + 1) w47 (.slice (some ⟨a46, 0, none⟩) 2 2) [⟨⟨0, 1⟩, [], name, 0, sku, a, true⟩, ⟨⟨1, 1⟩, [1], name, 0, sku, b, true⟩] := OwnX.of_bx (ok := Rg 0 a33 (a33 + 1)) hB49 (Flat.snoc (cs := [.int .i64 0, .int .i64 1, .slice none 0 0, .string name, .int .i64 0, .string sku, .int .i64 a, .bool true]) (xs := [⟨⟨0, 1⟩, [], name, 0, sku, a, true⟩]) (c := [.int .i64 1, .int .i64 1, .slice (some ⟨a33, 0, none⟩) 1 1, .string name, .int .i64 0, .string sku, .int .i64 b, .bool true]) (x := ⟨⟨1, 1⟩, [1], name, 0, sku, b, true⟩) (flat_one (kEv_cells.2 ⟨_, rfl, (Sl.nil _ _ _)⟩)) (kEv_cells.2 ⟨_, rfl, hO40.sl⟩)) rfl (by simp [lim]) (by omega) (Nat.le_refl _) (by omega) (by omega) (by intro b hb hl; unfold Rg at hb; omega)
            refine s_call 23 _ _ (by kernel_rfl) rfl rfl (lines_c hO53.sl name (ok_two ⟨(by show (0 : Int) ≤ a; omega), (by show a ≤ 1000; omega), hsk⟩ ⟨(by show (0 : Int) ≤ b; omega), (by show b ≤ 1000; omega), hsk⟩)) ?_
            rintro v54 w55 ⟨hS56, hb57⟩
            refine norm (rfl : _ = [_, _, _, _, _, _, _, _, _, _, _, _, _, _, _, _, _, _, _, _, _, _, _, _, _, _, _, _, _, _, _, _, _, _, _, _, _, _, _, _, _, _, _, _, _, _, _, _, _, _, _, _, _, _, _, _, _, _, _, _, _, _, _, _, _, _, _]) ?_
            have hc58 := Chg.of_bel hb57
            have hs59 := hc58.size
            replace hb := hb.chg hc58 (by omega)
            replace hB17 := hB17.chg hc58 (by omega)
            replace hO40 := hO40.chg hc58 (by omega)
            replace hB42 := hB42.chg hc58 (by omega)
            replace hO53 := hO53.chg hc58 (by omega)
            refine s_val (v := (.string sku)) rfl (r_move rfl) (rfl : _ = [_, _, _, _, _, _, _, _, _, _, _, _, _, _, _, _, _, _, _, _, _, _, _, _, _, _, _, _, _, _, _, _, _, _, _, _, _, _, _, _, _, _, _, _, _, _, _, _, _, _, _, _, _, _, _, _, _, _, _, _, _, _, _, _, _, _, _]) ?_
            refine s_call 22 _ _ (by kernel_rfl) rfl rfl (ofq_c hS56 sku) ?_
            rintro _ w60 ⟨rfl, hb61⟩
            refine norm (rfl : _ = [_, _, _, _, _, _, _, _, _, _, _, _, _, _, _, _, _, _, _, _, _, _, _, _, _, _, _, _, _, _, _, _, _, _, _, _, _, _, _, _, _, _, _, _, _, _, _, _, _, _, _, _, _, _, _, _, _, _, _, _, _, _, _, _, _, _, _]) ?_
            have hc62 := Chg.of_bel hb61
            have hs63 := hc62.size
            replace hb := hb.chg hc62 (by omega)
            replace hB17 := hB17.chg hc62 (by omega)
            replace hO40 := hO40.chg hc62 (by omega)
            replace hB42 := hB42.chg hc62 (by omega)
            replace hO53 := hO53.chg hc62 (by omega)
            replace hS56 := hS56.chg hc62 (by omega)
            refine s_val (v := (.int .i64 b)) rfl (r_move rfl) (rfl : _ = [_, _, _, _, _, _, _, _, _, _, _, _, _, _, _, _, _, _, _, _, _, _, _, _, _, _, _, _, _, _, _, _, _, _, _, _, _, _, _, _, _, _, _, _, _, _, _, _, _, _, _, _, _, _, _, _, _, _, _, _, _, _, _, _, _, _, _]) ?_
            refine s_bool (p := ((qtyL (linesL [⟨⟨0, 1⟩, [], name, 0, sku, a, true⟩, ⟨⟨1, 1⟩, [1], name, 0, sku, b, true⟩] name) sku) = b : Prop)) rfl (r_eqi rfl rfl) eqi_iff ?_
            intro b64 hb64
            refine norm (rfl : _ = [_, _, _, _, _, _, _, _, _, _, _, _, _, _, _, _, _, _, _, _, _, _, _, _, _, _, _, _, _, _, _, _, _, _, _, _, _, _, _, _, _, _, _, _, _, _, _, _, _, _, _, _, _, _, _, _, _, _, _, _, _, _, _, _, _, _, _]) ?_
            refine s_val (v := (.bool b64)) rfl (r_move rfl) (rfl : _ = [_, _, _, _, _, _, _, _, _, _, _, _, _, _, _, _, _, _, _, _, _, _, _, _, _, _, _, _, _, _, _, _, _, _, _, _, _, _, _, _, _, _, _, _, _, _, _, _, _, _, _, _, _, _, _, _, _, _, _, _, _, _, _, _, _, _, _]) ?_
            cases b64 with
            | true =>
              replace hb64 := bt hb64
              refine s_val (v := (.agg #[.int .i64 1, .int .i64 1, .slice (some ⟨a33, 0, none⟩) 1 1, .string name, .int .i64 0, .string sku, .int .i64 b, .bool true])) (wan_t (dj := 56) rfl rfl) (r_load rfl (Ld.row (cs := [.int .i64 1, .int .i64 1, .slice (some ⟨a33, 0, none⟩) 1 1, .string name, .int .i64 0, .string sku, .int .i64 b, .bool true]) Try.underlying39 rfl (by kernel_rfl) (hB42.range 0 rfl))) (rfl : _ = [_, _, _, _, _, _, _, _, _, _, _, _, _, _, _, _, _, _, _, _, _, _, _, _, _, _, _, _, _, _, _, _, _, _, _, _, _, _, _, _, _, _, _, _, _, _, _, _, _, _, _, _, _, _, _, _, _, _, _, _, _, _, _, _, _, _, _]) ?_
              refine s_val (v := (.agg #[.int .i64 0, .int .i64 1, .slice none 0 0, .string name, .int .i64 0, .string sku, .int .i64 a, .bool true])) (wan_t (dj := 56) rfl rfl) (r_load rfl (Ld.row (cs := [.int .i64 0, .int .i64 1, .slice none 0 0, .string name, .int .i64 0, .string sku, .int .i64 a, .bool true]) Try.underlying39 rfl (by kernel_rfl) (hB17.range 0 rfl))) (rfl : _ = [_, _, _, _, _, _, _, _, _, _, _, _, _, _, _, _, _, _, _, _, _, _, _, _, _, _, _, _, _, _, _, _, _, _, _, _, _, _, _, _, _, _, _, _, _, _, _, _, _, _, _, _, _, _, _, _, _, _, _, _, _, _, _, _, _, _, _]) ?_
              refine s_buildSlice (cs := [.int .i64 1, .int .i64 1, .slice (some ⟨a33, 0, none⟩) 1 1, .string name, .int .i64 0, .string sku, .int .i64 b, .bool true, .int .i64 0, .int .i64 1, .slice none 0 0, .string name, .int .i64 0, .string sku, .int .i64 a, .bool true]) (e := 39) 34 2 _ (wan_t (dj := 56) rfl rfl) rfl (by kernel_rfl) ?_
              intro a65 w66 he67 hB68 hc69 hz70
              refine norm (rfl : _ = [_, _, _, _, _, _, _, _, _, _, _, _, _, _, _, _, _, _, _, _, _, _, _, _, _, _, _, _, _, _, _, _, _, _, _, _, _, _, _, _, _, _, _, _, _, _, _, _, _, _, _, _, _, _, _, _, _, _, _, _, _, _, _, _, _, _, _]) ?_
              have hs71 := hc69.size
              replace hb := hb.chg hc69 (by omega)
              replace hB17 := hB17.chg hc69 (by omega)
              replace hO40 := hO40.chg hc69 (by omega)
              replace hB42 := hB42.chg hc69 (by omega)
              replace hO53 := hO53.chg hc69 (by omega)
              replace hS56 := hS56.chg hc69 (by omega)
              refine s_val (v := (.string name)) (wan_t (dj := 56) rfl rfl) (r_move rfl) (rfl : _ = [_, _, _, _, _, _, _, _, _, _, _, _, _, _, _, _, _, _, _, _, _, _, _, _, _, _, _, _, _, _, _, _, _, _, _, _, _, _, _, _, _, _, _, _, _, _, _, _, _, _, _, _, _, _, _, _, _, _, _, _, _, _, _, _, _, _, _]) ?_
              have hO72 : OwnX kEv 39 a65 a65 (a65 + 1) w66 (.slice (some ⟨a65, 0, none⟩) 2 2) [⟨⟨1, 1⟩, [1], name, 0, sku, b, true⟩, ⟨⟨0, 1⟩, [], name, 0, sku, a, true⟩] := OwnX.of_bx (ok := Rg 0 a33 (a33 + 1)) hB68 (Flat.snoc (cs := [.int .i64 1, .int .i64 1, .slice (some ⟨a33, 0, none⟩) 1 1, .string name, .int .i64 0, .string sku, .int .i64 b, .bool true]) (xs := [⟨⟨1, 1⟩, [1], name, 0, sku, b, true⟩]) (c := [.int .i64 0, .int .i64 1, .slice none 0 0, .string name, .int .i64 0, .string sku, .int .i64 a, .bool true]) (x := ⟨⟨0, 1⟩, [], name, 0, sku, a, true⟩) (flat_one (kEv_cells.2 ⟨_, rfl, hO40.sl⟩)) (kEv_cells.2 ⟨_, rfl, (Sl.nil _ _ _)⟩)) rfl (by simp [lim]) (by omega) (Nat.le_refl _) (by omega) (by omega) (by intro b hb hl; unfold Rg at hb; omega)
              refine s_call 23 _ _ (by kernel_rfl) (wan_t (dj := 56) rfl rfl) rfl (lines_c hO72.sl name (ok_two ⟨(by show (0 : Int) ≤ b; omega), (by show b ≤ 1000; omega), hsk⟩ ⟨(by show (0 : Int) ≤ a; omega), (by show a ≤ 1000; omega), hsk⟩)) ?_
              rintro v73 w74 ⟨hS75, hb76⟩
              refine norm (rfl : _ = [_, _, _, _, _, _, _, _, _, _, _, _, _, _, _, _, _, _, _, _, _, _, _, _, _, _, _, _, _, _, _, _, _, _, _, _, _, _, _, _, _, _, _, _, _, _, _, _, _, _, _, _, _, _, _, _, _, _, _, _, _, _, _, _, _, _, _]) ?_
              have hc77 := Chg.of_bel hb76
              have hs78 := hc77.size
              replace hb := hb.chg hc77 (by omega)
              replace hB17 := hB17.chg hc77 (by omega)
              replace hO40 := hO40.chg hc77 (by omega)
              replace hB42 := hB42.chg hc77 (by omega)
              replace hO53 := hO53.chg hc77 (by omega)
              replace hS56 := hS56.chg hc77 (by omega)
              replace hO72 := hO72.chg hc77 (by omega)
              refine s_val (v := (.string sku)) (wan_t (dj := 56) rfl rfl) (r_move rfl) (rfl : _ = [_, _, _, _, _, _, _, _, _, _, _, _, _, _, _, _, _, _, _, _, _, _, _, _, _, _, _, _, _, _, _, _, _, _, _, _, _, _, _, _, _, _, _, _, _, _, _, _, _, _, _, _, _, _, _, _, _, _, _, _, _, _, _, _, _, _, _]) ?_
              refine s_call 22 _ _ (by kernel_rfl) (wan_t (dj := 56) rfl rfl) rfl (ofq_c hS75 sku) ?_
              rintro _ w79 ⟨rfl, hb80⟩
              refine norm (rfl : _ = [_, _, _, _, _, _, _, _, _, _, _, _, _, _, _, _, _, _, _, _, _, _, _, _, _, _, _, _, _, _, _, _, _, _, _, _, _, _, _, _, _, _, _, _, _, _, _, _, _, _, _, _, _, _, _, _, _, _, _, _, _, _, _, _, _, _, _]) ?_
              have hc81 := Chg.of_bel hb80
              have hs82 := hc81.size
              replace hb := hb.chg hc81 (by omega)
              replace hB17 := hB17.chg hc81 (by omega)
              replace hO40 := hO40.chg hc81 (by omega)
              replace hB42 := hB42.chg hc81 (by omega)
              replace hO53 := hO53.chg hc81 (by omega)
              replace hS56 := hS56.chg hc81 (by omega)
              replace hO72 := hO72.chg hc81 (by omega)
              replace hS75 := hS75.chg hc81 (by omega)
              refine s_val (v := (.int .i64 b)) (wan_t (dj := 56) rfl rfl) (r_move rfl) (rfl : _ = [_, _, _, _, _, _, _, _, _, _, _, _, _, _, _, _, _, _, _, _, _, _, _, _, _, _, _, _, _, _, _, _, _, _, _, _, _, _, _, _, _, _, _, _, _, _, _, _, _, _, _, _, _, _, _, _, _, _, _, _, _, _, _, _, _, _, _]) ?_
              refine s_bool (p := ((qtyL (linesL [⟨⟨1, 1⟩, [1], name, 0, sku, b, true⟩, ⟨⟨0, 1⟩, [], name, 0, sku, a, true⟩] name) sku) = b : Prop)) (wan_t (dj := 56) rfl rfl) (r_eqi rfl rfl) eqi_iff ?_
              intro b83 hb83
              refine norm (rfl : _ = [_, _, _, _, _, _, _, _, _, _, _, _, _, _, _, _, _, _, _, _, _, _, _, _, _, _, _, _, _, _, _, _, _, _, _, _, _, _, _, _, _, _, _, _, _, _, _, _, _, _, _, _, _, _, _, _, _, _, _, _, _, _, _, _, _, _, _]) ?_
              refine s_val (v := (.bool b83)) rfl (r_pick rfl rfl) (rfl : _ = [_, _, _, _, _, _, _, _, _, _, _, _, _, _, _, _, _, _, _, _, _, _, _, _, _, _, _, _, _, _, _, _, _, _, _, _, _, _, _, _, _, _, _, _, _, _, _, _, _, _, _, _, _, _, _, _, _, _, _, _, _, _, _, _, _, _, _]) ?_
              refine s_val (v := (.bool b83)) rfl (r_assign rfl) (rfl : _ = [_, _, _, _, _, _, _, _, _, _, _, _, _, _, _, _, _, _, _, _, _, _, _, _, _, _, _, _, _, _, _, _, _, _, _, _, _, _, _, _, _, _, _, _, _, _, _, _, _, _, _, _, _, _, _, _, _, _, _, _, _, _, _, _, _, _, _]) ?_
              refine s_nil rfl ?_
              refine x_seq ?_
              refine c_ret ?_
              refine post_ret rfl rfl ?_
              cases b83 with
              | true =>
                replace hb83 := bt hb83
                exact ⟨rfl, hb⟩
              | false =>
                replace hb83 := bf hb83
                exact absurd (by first | exact known_one name sku a b (by omega) (by omega) | exact known_two name sku a b (by omega) (by omega) | exact (known_both name sku _ _ (by decide) _ _ (by omega) (by omega)).trans (by omega)) hb83
            | false =>
              replace hb64 := bf hb64
              refine s_skip (wan_f (dj := 56) rfl rfl rfl) (rfl : _ = [_, _, _, _, _, _, _, _, _, _, _, _, _, _, _, _, _, _, _, _, _, _, _, _, _, _, _, _, _, _, _, _, _, _, _, _, _, _, _, _, _, _, _, _, _, _, _, _, _, _, _, _, _, _, _, _, _, _, _, _, _, _, _, _, _, _, _]) ?_
              refine s_skip (wan_f (dj := 56) rfl rfl rfl) (rfl : _ = [_, _, _, _, _, _, _, _, _, _, _, _, _, _, _, _, _, _, _, _, _, _, _, _, _, _, _, _, _, _, _, _, _, _, _, _, _, _, _, _, _, _, _, _, _, _, _, _, _, _, _, _, _, _, _, _, _, _, _, _, _, _, _, _, _, _, _]) ?_
              refine s_skip (wan_f (dj := 56) rfl rfl rfl) (rfl : _ = [_, _, _, _, _, _, _, _, _, _, _, _, _, _, _, _, _, _, _, _, _, _, _, _, _, _, _, _, _, _, _, _, _, _, _, _, _, _, _, _, _, _, _, _, _, _, _, _, _, _, _, _, _, _, _, _, _, _, _, _, _, _, _, _, _, _, _]) ?_
              refine s_skip (wan_f (dj := 56) rfl rfl rfl) (rfl : _ = [_, _, _, _, _, _, _, _, _, _, _, _, _, _, _, _, _, _, _, _, _, _, _, _, _, _, _, _, _, _, _, _, _, _, _, _, _, _, _, _, _, _, _, _, _, _, _, _, _, _, _, _, _, _, _, _, _, _, _, _, _, _, _, _, _, _, _]) ?_
              refine s_skip (wan_f (dj := 56) rfl rfl rfl) (rfl : _ = [_, _, _, _, _, _, _, _, _, _, _, _, _, _, _, _, _, _, _, _, _, _, _, _, _, _, _, _, _, _, _, _, _, _, _, _, _, _, _, _, _, _, _, _, _, _, _, _, _, _, _, _, _, _, _, _, _, _, _, _, _, _, _, _, _, _, _]) ?_
              refine s_skip (wan_f (dj := 56) rfl rfl rfl) (rfl : _ = [_, _, _, _, _, _, _, _, _, _, _, _, _, _, _, _, _, _, _, _, _, _, _, _, _, _, _, _, _, _, _, _, _, _, _, _, _, _, _, _, _, _, _, _, _, _, _, _, _, _, _, _, _, _, _, _, _, _, _, _, _, _, _, _, _, _, _]) ?_
              refine s_skip (wan_f (dj := 56) rfl rfl rfl) (rfl : _ = [_, _, _, _, _, _, _, _, _, _, _, _, _, _, _, _, _, _, _, _, _, _, _, _, _, _, _, _, _, _, _, _, _, _, _, _, _, _, _, _, _, _, _, _, _, _, _, _, _, _, _, _, _, _, _, _, _, _, _, _, _, _, _, _, _, _, _]) ?_
              refine s_skip (wan_f (dj := 56) rfl rfl rfl) (rfl : _ = [_, _, _, _, _, _, _, _, _, _, _, _, _, _, _, _, _, _, _, _, _, _, _, _, _, _, _, _, _, _, _, _, _, _, _, _, _, _, _, _, _, _, _, _, _, _, _, _, _, _, _, _, _, _, _, _, _, _, _, _, _, _, _, _, _, _, _]) ?_
              refine s_skip (wan_f (dj := 56) rfl rfl rfl) (rfl : _ = [_, _, _, _, _, _, _, _, _, _, _, _, _, _, _, _, _, _, _, _, _, _, _, _, _, _, _, _, _, _, _, _, _, _, _, _, _, _, _, _, _, _, _, _, _, _, _, _, _, _, _, _, _, _, _, _, _, _, _, _, _, _, _, _, _, _, _]) ?_
              refine s_val (v := (.bool false)) rfl (r_pick rfl rfl) (rfl : _ = [_, _, _, _, _, _, _, _, _, _, _, _, _, _, _, _, _, _, _, _, _, _, _, _, _, _, _, _, _, _, _, _, _, _, _, _, _, _, _, _, _, _, _, _, _, _, _, _, _, _, _, _, _, _, _, _, _, _, _, _, _, _, _, _, _, _, _]) ?_
              refine s_val (v := (.bool false)) rfl (r_assign rfl) (rfl : _ = [_, _, _, _, _, _, _, _, _, _, _, _, _, _, _, _, _, _, _, _, _, _, _, _, _, _, _, _, _, _, _, _, _, _, _, _, _, _, _, _, _, _, _, _, _, _, _, _, _, _, _, _, _, _, _, _, _, _, _, _, _, _, _, _, _, _, _]) ?_
              refine s_nil rfl ?_
              refine x_seq ?_
              refine c_ret ?_
              refine post_ret rfl rfl ?_
              exact absurd (by first | exact known_one name sku a b (by omega) (by omega) | exact known_two name sku a b (by omega) (by omega) | exact (known_both name sku _ _ (by decide) _ _ (by omega) (by omega)).trans (by omega)) hb64
          | false =>
            refine c_cond rfl (fun hh => by cases hh) (fun _ => ?_)
            refine c_skip ?_
            refine x_seq ?_
            refine c_seq ?_
            refine c_region ?_
            refine s_val (v := (.agg #[.int .i64 0, .int .i64 1, .slice none 0 0, .string name, .int .i64 0, .string sku, .int .i64 a, .bool true])) rfl (r_load rfl (Ld.row (cs := [.int .i64 0, .int .i64 1, .slice none 0 0, .string name, .int .i64 0, .string sku, .int .i64 a, .bool true]) Try.underlying39 rfl (by kernel_rfl) (hB17.range 0 rfl))) (rfl : _ = [_, _, _, _, _, _, _, _, _, _, _, _, _, _, _, _, _, _, _, _, _, _, _, _, _, _, _, _, _, _, _, _, _, _, _, _, _, _, _, _, _, _, _, _, _, _, _, _, _, _, _, _, _, _, _, _, _, _, _, _, _, _, _, _, _, _, _]) ?_
            refine s_val (v := (.agg #[.int .i64 1, .int .i64 1, .slice none 0 0, .string name, .int .i64 0, .string sku, .int .i64 b, .bool true])) rfl (r_load rfl (Ld.row (cs := [.int .i64 1, .int .i64 1, .slice none 0 0, .string name, .int .i64 0, .string sku, .int .i64 b, .bool true]) Try.underlying39 rfl (by kernel_rfl) (hB29.range 0 rfl))) (rfl : _ = [_, _, _, _, _, _, _, _, _, _, _, _, _, _, _, _, _, _, _, _, _, _, _, _, _, _, _, _, _, _, _, _, _, _, _, _, _, _, _, _, _, _, _, _, _, _, _, _, _, _, _, _, _, _, _, _, _, _, _, _, _, _, _, _, _, _, _]) ?_
            refine s_buildSlice (cs := [.int .i64 0, .int .i64 1, .slice none 0 0, .string name, .int .i64 0, .string sku, .int .i64 a, .bool true, .int .i64 1, .int .i64 1, .slice none 0 0, .string name, .int .i64 0, .string sku, .int .i64 b, .bool true]) (e := 39) 34 2 _ rfl rfl (by kernel_rfl) ?_
            intro a84 w85 he86 hB87 hc88 hz89
            refine norm (rfl : _ = [_, _, _, _, _, _, _, _, _, _, _, _, _, _, _, _, _, _, _, _, _, _, _, _, _, _, _, _, _, _, _, _, _, _, _, _, _, _, _, _, _, _, _, _, _, _, _, _, _, _, _, _, _, _, _, _, _, _, _, _, _, _, _, _, _, _, _]) ?_
            have hs90 := hc88.size
            replace hb := hb.chg hc88 (by omega)
            replace hB17 := hB17.chg hc88 (by omega)
            replace hB29 := hB29.chg hc88 (by omega)
            refine s_val (v := (.string name)) rfl (r_move rfl) (rfl : _ = [_, _, _, _, _, _, _, _, _, _, _, _, _, _, _, _, _, _, _, _, _, _, _, _, _, _, _, _, _, _, _, _, _, _, _, _, _, _, _, _, _, _, _, _, _, _, _, _, _, _, _, _, _, _, _, _, _, _, _, _, _, _, _, _, _, _, _]) ?_
            have hO91 : OwnX kEv 39 a84 a84 (a84 + 1) w85 (.slice (some ⟨a84, 0, none⟩) 2 2) [⟨⟨0, 1⟩, [], name, 0, sku, a, true⟩, ⟨⟨1, 1⟩, [], name, 0, sku, b, true⟩] := OwnX.of_bx (ok := (fun _ => False)) hB87 (Flat.snoc (cs := [.int .i64 0, .int .i64 1, .slice none 0 0, .string name, .int .i64 0, .string sku, .int .i64 a, .bool true]) (xs := [⟨⟨0, 1⟩, [], name, 0, sku, a, true⟩]) (c := [.int .i64 1, .int .i64 1, .slice none 0 0, .string name, .int .i64 0, .string sku, .int .i64 b, .bool true]) (x := ⟨⟨1, 1⟩, [], name, 0, sku, b, true⟩) (flat_one (kEv_cells.2 ⟨_, rfl, (Sl.nil _ _ _)⟩)) (kEv_cells.2 ⟨_, rfl, (Sl.nil _ _ _)⟩)) rfl (by simp [lim]) (by omega) (Nat.le_refl _) (by omega) (by omega) (fun _ hb _ => hb.elim)
            refine s_call 23 _ _ (by kernel_rfl) rfl rfl (lines_c hO91.sl name (ok_two ⟨(by show (0 : Int) ≤ a; omega), (by show a ≤ 1000; omega), hsk⟩ ⟨(by show (0 : Int) ≤ b; omega), (by show b ≤ 1000; omega), hsk⟩)) ?_
            rintro v92 w93 ⟨hS94, hb95⟩
            refine norm (rfl : _ = [_, _, _, _, _, _, _, _, _, _, _, _, _, _, _, _, _, _, _, _, _, _, _, _, _, _, _, _, _, _, _, _, _, _, _, _, _, _, _, _, _, _, _, _, _, _, _, _, _, _, _, _, _, _, _, _, _, _, _, _, _, _, _, _, _, _, _]) ?_
            have hc96 := Chg.of_bel hb95
            have hs97 := hc96.size
            replace hb := hb.chg hc96 (by omega)
            replace hB17 := hB17.chg hc96 (by omega)
            replace hB29 := hB29.chg hc96 (by omega)
            replace hO91 := hO91.chg hc96 (by omega)
            refine s_val (v := (.string sku)) rfl (r_move rfl) (rfl : _ = [_, _, _, _, _, _, _, _, _, _, _, _, _, _, _, _, _, _, _, _, _, _, _, _, _, _, _, _, _, _, _, _, _, _, _, _, _, _, _, _, _, _, _, _, _, _, _, _, _, _, _, _, _, _, _, _, _, _, _, _, _, _, _, _, _, _, _]) ?_
            refine s_call 22 _ _ (by kernel_rfl) rfl rfl (ofq_c hS94 sku) ?_
            rintro _ w98 ⟨rfl, hb99⟩
            refine norm (rfl : _ = [_, _, _, _, _, _, _, _, _, _, _, _, _, _, _, _, _, _, _, _, _, _, _, _, _, _, _, _, _, _, _, _, _, _, _, _, _, _, _, _, _, _, _, _, _, _, _, _, _, _, _, _, _, _, _, _, _, _, _, _, _, _, _, _, _, _, _]) ?_
            have hc100 := Chg.of_bel hb99
            have hs101 := hc100.size
            replace hb := hb.chg hc100 (by omega)
            replace hB17 := hB17.chg hc100 (by omega)
            replace hB29 := hB29.chg hc100 (by omega)
            replace hO91 := hO91.chg hc100 (by omega)
            replace hS94 := hS94.chg hc100 (by omega)
            refine s_val (v := (.int .i64 (a + b))) rfl (r_move rfl) (rfl : _ = [_, _, _, _, _, _, _, _, _, _, _, _, _, _, _, _, _, _, _, _, _, _, _, _, _, _, _, _, _, _, _, _, _, _, _, _, _, _, _, _, _, _, _, _, _, _, _, _, _, _, _, _, _, _, _, _, _, _, _, _, _, _, _, _, _, _, _]) ?_
            refine s_bool (p := ((qtyL (linesL [⟨⟨0, 1⟩, [], name, 0, sku, a, true⟩, ⟨⟨1, 1⟩, [], name, 0, sku, b, true⟩] name) sku) = (a + b) : Prop)) rfl (r_eqi rfl rfl) eqi_iff ?_
            intro b102 hb102
            refine norm (rfl : _ = [_, _, _, _, _, _, _, _, _, _, _, _, _, _, _, _, _, _, _, _, _, _, _, _, _, _, _, _, _, _, _, _, _, _, _, _, _, _, _, _, _, _, _, _, _, _, _, _, _, _, _, _, _, _, _, _, _, _, _, _, _, _, _, _, _, _, _]) ?_
            refine s_val (v := (.bool b102)) rfl (r_move rfl) (rfl : _ = [_, _, _, _, _, _, _, _, _, _, _, _, _, _, _, _, _, _, _, _, _, _, _, _, _, _, _, _, _, _, _, _, _, _, _, _, _, _, _, _, _, _, _, _, _, _, _, _, _, _, _, _, _, _, _, _, _, _, _, _, _, _, _, _, _, _, _]) ?_
            cases b102 with
            | true =>
              replace hb102 := bt hb102
              refine s_val (v := (.agg #[.int .i64 1, .int .i64 1, .slice none 0 0, .string name, .int .i64 0, .string sku, .int .i64 b, .bool true])) (wan_t (dj := 56) rfl rfl) (r_load rfl (Ld.row (cs := [.int .i64 1, .int .i64 1, .slice none 0 0, .string name, .int .i64 0, .string sku, .int .i64 b, .bool true]) Try.underlying39 rfl (by kernel_rfl) (hB29.range 0 rfl))) (rfl : _ = [_, _, _, _, _, _, _, _, _, _, _, _, _, _, _, _, _, _, _, _, _, _, _, _, _, _, _, _, _, _, _, _, _, _, _, _, _, _, _, _, _, _, _, _, _, _, _, _, _, _, _, _, _, _, _, _, _, _, _, _, _, _, _, _, _, _, _]) ?_
              refine s_val (v := (.agg #[.int .i64 0, .int .i64 1, .slice none 0 0, .string name, .int .i64 0, .string sku, .int .i64 a, .bool true])) (wan_t (dj := 56) rfl rfl) (r_load rfl (Ld.row (cs := [.int .i64 0, .int .i64 1, .slice none 0 0, .string name, .int .i64 0, .string sku, .int .i64 a, .bool true]) Try.underlying39 rfl (by kernel_rfl) (hB17.range 0 rfl))) (rfl : _ = [_, _, _, _, _, _, _, _, _, _, _, _, _, _, _, _, _, _, _, _, _, _, _, _, _, _, _, _, _, _, _, _, _, _, _, _, _, _, _, _, _, _, _, _, _, _, _, _, _, _, _, _, _, _, _, _, _, _, _, _, _, _, _, _, _, _, _]) ?_
              refine s_buildSlice (cs := [.int .i64 1, .int .i64 1, .slice none 0 0, .string name, .int .i64 0, .string sku, .int .i64 b, .bool true, .int .i64 0, .int .i64 1, .slice none 0 0, .string name, .int .i64 0, .string sku, .int .i64 a, .bool true]) (e := 39) 34 2 _ (wan_t (dj := 56) rfl rfl) rfl (by kernel_rfl) ?_
              intro a103 w104 he105 hB106 hc107 hz108
              refine norm (rfl : _ = [_, _, _, _, _, _, _, _, _, _, _, _, _, _, _, _, _, _, _, _, _, _, _, _, _, _, _, _, _, _, _, _, _, _, _, _, _, _, _, _, _, _, _, _, _, _, _, _, _, _, _, _, _, _, _, _, _, _, _, _, _, _, _, _, _, _, _]) ?_
              have hs109 := hc107.size
              replace hb := hb.chg hc107 (by omega)
              replace hB17 := hB17.chg hc107 (by omega)
              replace hB29 := hB29.chg hc107 (by omega)
              replace hO91 := hO91.chg hc107 (by omega)
              replace hS94 := hS94.chg hc107 (by omega)
              refine s_val (v := (.string name)) (wan_t (dj := 56) rfl rfl) (r_move rfl) (rfl : _ = [_, _, _, _, _, _, _, _, _, _, _, _, _, _, _, _, _, _, _, _, _, _, _, _, _, _, _, _, _, _, _, _, _, _, _, _, _, _, _, _, _, _, _, _, _, _, _, _, _, _, _, _, _, _, _, _, _, _, _, _, _, _, _, _, _, _, _]) ?_
              have hO110 : OwnX kEv 39 a103 a103 (a103 + 1) w104 (.slice (some ⟨a103, 0, none⟩) 2 2) [⟨⟨1, 1⟩, [], name, 0, sku, b, true⟩, ⟨⟨0, 1⟩, [], name, 0, sku, a, true⟩] := OwnX.of_bx (ok := (fun _ => False)) hB106 (Flat.snoc (cs := [.int .i64 1, .int .i64 1, .slice none 0 0, .string name, .int .i64 0, .string sku, .int .i64 b, .bool true]) (xs := [⟨⟨1, 1⟩, [], name, 0, sku, b, true⟩]) (c := [.int .i64 0, .int .i64 1, .slice none 0 0, .string name, .int .i64 0, .string sku, .int .i64 a, .bool true]) (x := ⟨⟨0, 1⟩, [], name, 0, sku, a, true⟩) (flat_one (kEv_cells.2 ⟨_, rfl, (Sl.nil _ _ _)⟩)) (kEv_cells.2 ⟨_, rfl, (Sl.nil _ _ _)⟩)) rfl (by simp [lim]) (by omega) (Nat.le_refl _) (by omega) (by omega) (fun _ hb _ => hb.elim)
              refine s_call 23 _ _ (by kernel_rfl) (wan_t (dj := 56) rfl rfl) rfl (lines_c hO110.sl name (ok_two ⟨(by show (0 : Int) ≤ b; omega), (by show b ≤ 1000; omega), hsk⟩ ⟨(by show (0 : Int) ≤ a; omega), (by show a ≤ 1000; omega), hsk⟩)) ?_
              rintro v111 w112 ⟨hS113, hb114⟩
              refine norm (rfl : _ = [_, _, _, _, _, _, _, _, _, _, _, _, _, _, _, _, _, _, _, _, _, _, _, _, _, _, _, _, _, _, _, _, _, _, _, _, _, _, _, _, _, _, _, _, _, _, _, _, _, _, _, _, _, _, _, _, _, _, _, _, _, _, _, _, _, _, _]) ?_
              have hc115 := Chg.of_bel hb114
              have hs116 := hc115.size
              replace hb := hb.chg hc115 (by omega)
              replace hB17 := hB17.chg hc115 (by omega)
              replace hB29 := hB29.chg hc115 (by omega)
              replace hO91 := hO91.chg hc115 (by omega)
              replace hS94 := hS94.chg hc115 (by omega)
              replace hO110 := hO110.chg hc115 (by omega)
              refine s_val (v := (.string sku)) (wan_t (dj := 56) rfl rfl) (r_move rfl) (rfl : _ = [_, _, _, _, _, _, _, _, _, _, _, _, _, _, _, _, _, _, _, _, _, _, _, _, _, _, _, _, _, _, _, _, _, _, _, _, _, _, _, _, _, _, _, _, _, _, _, _, _, _, _, _, _, _, _, _, _, _, _, _, _, _, _, _, _, _, _]) ?_
              refine s_call 22 _ _ (by kernel_rfl) (wan_t (dj := 56) rfl rfl) rfl (ofq_c hS113 sku) ?_
              rintro _ w117 ⟨rfl, hb118⟩
              refine norm (rfl : _ = [_, _, _, _, _, _, _, _, _, _, _, _, _, _, _, _, _, _, _, _, _, _, _, _, _, _, _, _, _, _, _, _, _, _, _, _, _, _, _, _, _, _, _, _, _, _, _, _, _, _, _, _, _, _, _, _, _, _, _, _, _, _, _, _, _, _, _]) ?_
              have hc119 := Chg.of_bel hb118
              have hs120 := hc119.size
              replace hb := hb.chg hc119 (by omega)
              replace hB17 := hB17.chg hc119 (by omega)
              replace hB29 := hB29.chg hc119 (by omega)
              replace hO91 := hO91.chg hc119 (by omega)
              replace hS94 := hS94.chg hc119 (by omega)
              replace hO110 := hO110.chg hc119 (by omega)
              replace hS113 := hS113.chg hc119 (by omega)
              refine s_val (v := (.int .i64 (a + b))) (wan_t (dj := 56) rfl rfl) (r_move rfl) (rfl : _ = [_, _, _, _, _, _, _, _, _, _, _, _, _, _, _, _, _, _, _, _, _, _, _, _, _, _, _, _, _, _, _, _, _, _, _, _, _, _, _, _, _, _, _, _, _, _, _, _, _, _, _, _, _, _, _, _, _, _, _, _, _, _, _, _, _, _, _]) ?_
              refine s_bool (p := ((qtyL (linesL [⟨⟨1, 1⟩, [], name, 0, sku, b, true⟩, ⟨⟨0, 1⟩, [], name, 0, sku, a, true⟩] name) sku) = (a + b) : Prop)) (wan_t (dj := 56) rfl rfl) (r_eqi rfl rfl) eqi_iff ?_
              intro b121 hb121
              refine norm (rfl : _ = [_, _, _, _, _, _, _, _, _, _, _, _, _, _, _, _, _, _, _, _, _, _, _, _, _, _, _, _, _, _, _, _, _, _, _, _, _, _, _, _, _, _, _, _, _, _, _, _, _, _, _, _, _, _, _, _, _, _, _, _, _, _, _, _, _, _, _]) ?_
              refine s_val (v := (.bool b121)) rfl (r_pick rfl rfl) (rfl : _ = [_, _, _, _, _, _, _, _, _, _, _, _, _, _, _, _, _, _, _, _, _, _, _, _, _, _, _, _, _, _, _, _, _, _, _, _, _, _, _, _, _, _, _, _, _, _, _, _, _, _, _, _, _, _, _, _, _, _, _, _, _, _, _, _, _, _, _]) ?_
              refine s_val (v := (.bool b121)) rfl (r_assign rfl) (rfl : _ = [_, _, _, _, _, _, _, _, _, _, _, _, _, _, _, _, _, _, _, _, _, _, _, _, _, _, _, _, _, _, _, _, _, _, _, _, _, _, _, _, _, _, _, _, _, _, _, _, _, _, _, _, _, _, _, _, _, _, _, _, _, _, _, _, _, _, _]) ?_
              refine s_nil rfl ?_
              refine x_seq ?_
              refine c_ret ?_
              refine post_ret rfl rfl ?_
              cases b121 with
              | true =>
                replace hb121 := bt hb121
                exact ⟨rfl, hb⟩
              | false =>
                replace hb121 := bf hb121
                exact absurd (by first | exact known_one name sku a b (by omega) (by omega) | exact known_two name sku a b (by omega) (by omega) | exact (known_both name sku _ _ (by decide) _ _ (by omega) (by omega)).trans (by omega)) hb121
            | false =>
              replace hb102 := bf hb102
              refine s_skip (wan_f (dj := 56) rfl rfl rfl) (rfl : _ = [_, _, _, _, _, _, _, _, _, _, _, _, _, _, _, _, _, _, _, _, _, _, _, _, _, _, _, _, _, _, _, _, _, _, _, _, _, _, _, _, _, _, _, _, _, _, _, _, _, _, _, _, _, _, _, _, _, _, _, _, _, _, _, _, _, _, _]) ?_
              refine s_skip (wan_f (dj := 56) rfl rfl rfl) (rfl : _ = [_, _, _, _, _, _, _, _, _, _, _, _, _, _, _, _, _, _, _, _, _, _, _, _, _, _, _, _, _, _, _, _, _, _, _, _, _, _, _, _, _, _, _, _, _, _, _, _, _, _, _, _, _, _, _, _, _, _, _, _, _, _, _, _, _, _, _]) ?_
              refine s_skip (wan_f (dj := 56) rfl rfl rfl) (rfl : _ = [_, _, _, _, _, _, _, _, _, _, _, _, _, _, _, _, _, _, _, _, _, _, _, _, _, _, _, _, _, _, _, _, _, _, _, _, _, _, _, _, _, _, _, _, _, _, _, _, _, _, _, _, _, _, _, _, _, _, _, _, _, _, _, _, _, _, _]) ?_
              refine s_skip (wan_f (dj := 56) rfl rfl rfl) (rfl : _ = [_, _, _, _, _, _, _, _, _, _, _, _, _, _, _, _, _, _, _, _, _, _, _, _, _, _, _, _, _, _, _, _, _, _, _, _, _, _, _, _, _, _, _, _, _, _, _, _, _, _, _, _, _, _, _, _, _, _, _, _, _, _, _, _, _, _, _]) ?_
              refine s_skip (wan_f (dj := 56) rfl rfl rfl) (rfl : _ = [_, _, _, _, _, _, _, _, _, _, _, _, _, _, _, _, _, _, _, _, _, _, _, _, _, _, _, _, _, _, _, _, _, _, _, _, _, _, _, _, _, _, _, _, _, _, _, _, _, _, _, _, _, _, _, _, _, _, _, _, _, _, _, _, _, _, _]) ?_
              refine s_skip (wan_f (dj := 56) rfl rfl rfl) (rfl : _ = [_, _, _, _, _, _, _, _, _, _, _, _, _, _, _, _, _, _, _, _, _, _, _, _, _, _, _, _, _, _, _, _, _, _, _, _, _, _, _, _, _, _, _, _, _, _, _, _, _, _, _, _, _, _, _, _, _, _, _, _, _, _, _, _, _, _, _]) ?_
              refine s_skip (wan_f (dj := 56) rfl rfl rfl) (rfl : _ = [_, _, _, _, _, _, _, _, _, _, _, _, _, _, _, _, _, _, _, _, _, _, _, _, _, _, _, _, _, _, _, _, _, _, _, _, _, _, _, _, _, _, _, _, _, _, _, _, _, _, _, _, _, _, _, _, _, _, _, _, _, _, _, _, _, _, _]) ?_
              refine s_skip (wan_f (dj := 56) rfl rfl rfl) (rfl : _ = [_, _, _, _, _, _, _, _, _, _, _, _, _, _, _, _, _, _, _, _, _, _, _, _, _, _, _, _, _, _, _, _, _, _, _, _, _, _, _, _, _, _, _, _, _, _, _, _, _, _, _, _, _, _, _, _, _, _, _, _, _, _, _, _, _, _, _]) ?_
              refine s_skip (wan_f (dj := 56) rfl rfl rfl) (rfl : _ = [_, _, _, _, _, _, _, _, _, _, _, _, _, _, _, _, _, _, _, _, _, _, _, _, _, _, _, _, _, _, _, _, _, _, _, _, _, _, _, _, _, _, _, _, _, _, _, _, _, _, _, _, _, _, _, _, _, _, _, _, _, _, _, _, _, _, _]) ?_
              refine s_val (v := (.bool false)) rfl (r_pick rfl rfl) (rfl : _ = [_, _, _, _, _, _, _, _, _, _, _, _, _, _, _, _, _, _, _, _, _, _, _, _, _, _, _, _, _, _, _, _, _, _, _, _, _, _, _, _, _, _, _, _, _, _, _, _, _, _, _, _, _, _, _, _, _, _, _, _, _, _, _, _, _, _, _]) ?_
              refine s_val (v := (.bool false)) rfl (r_assign rfl) (rfl : _ = [_, _, _, _, _, _, _, _, _, _, _, _, _, _, _, _, _, _, _, _, _, _, _, _, _, _, _, _, _, _, _, _, _, _, _, _, _, _, _, _, _, _, _, _, _, _, _, _, _, _, _, _, _, _, _, _, _, _, _, _, _, _, _, _, _, _, _]) ?_
              refine s_nil rfl ?_
              refine x_seq ?_
              refine c_ret ?_
              refine post_ret rfl rfl ?_
              exact absurd (by first | exact known_one name sku a b (by omega) (by omega) | exact known_two name sku a b (by omega) (by omega) | exact (known_both name sku _ _ (by decide) _ _ (by omega) (by omega)).trans (by omega)) hb102

theorem cut1_c {ok ok2 : Nat → Prop} {w : World} {e : Ev} {d : Value} (hd : Sl kInt ok w d e.deps) {v : Value} {xs : List Int} (hT : Sl kInt ok2 w v xs) {bs : Nat} (hX : Bx w bs [v] 23) :
    CallsV Try.prog 59 #[(.agg #[.int .i64 e.dot.o, .int .i64 e.dot.s, d, .string e.cart, .int .i64 e.epoch, .string e.sku, .int .i64 e.qty, .bool e.clears]), (.pointer (some ⟨bs, 0, none⟩))] w (fun r w' => r = .bool (hasV xs e.dot) ∧ Bel w w') := by
  have hb := Bel.refl w
  replace hd : Sl kInt (Rg w.heap.size 0 0) w d e.deps := hd.weak (by decide) (fun b _ hl => .inl hl)
  have hdlim := lim_le hd.lim
  replace hT : Sl kInt (Rg w.heap.size 0 0) w v xs := hT.weak (by decide) (fun b _ hl => .inl hl)
  have hTlim := lim_le hT.lim
  have hXl := hX.lt
  refine callsV_of Try.func59 (m := 6) Try.ntmps59 rfl rfl (l := [.agg #[.int .i64 e.dot.o, .int .i64 e.dot.s, d, .string e.cart, .int .i64 e.epoch, .string e.sku, .int .i64 e.qty, .bool e.clears], .pointer (some ⟨bs, 0, none⟩), undef, undef, undef, undef, undef, undef]) rfl ?_
  refine c_seq ?_
  refine c_region ?_
  refine s_box (v := (.agg #[.int .i64 e.dot.o, .int .i64 e.dot.s, d, .string e.cart, .int .i64 e.epoch, .string e.sku, .int .i64 e.qty, .bool e.clears])) 39 _ rfl rfl ?_
  intro a1 w2 he3 hB4 hc5 hz6
  refine norm (rfl : _ = [_, _, _, _, _, _, _, _]) ?_
  have hs7 := hc5.size
  replace hb := hb.chg hc5 (by omega)
  replace hX := hX.chg hc5 (by omega)
  refine s_val (v := (.bool false)) rfl (r_assign rfl) (rfl : _ = [_, _, _, _, _, _, _, _]) ?_
  refine s_nil rfl ?_
  refine x_seq ?_
  refine c_seq ?_
  refine c_region ?_
  refine s_val (v := v) rfl (r_load rfl (Ld.one Try.underlying23 rfl (hX.cell (i := 0) rfl))) (rfl : _ = [_, _, _, _, _, _, _, _]) ?_
  refine s_val (v := (.pointer (some ⟨a1, 0, none⟩))) rfl (r_field (k := 0) (o := 0) (by kernel_rfl) rfl) (rfl : _ = [_, _, _, _, _, _, _, _]) ?_
  refine s_val (v := (.agg #[.int .i64 e.dot.o, .int .i64 e.dot.s])) rfl (r_load rfl (Ld.row (cs := [.int .i64 e.dot.o, .int .i64 e.dot.s]) Try.underlying37 rfl (by kernel_rfl) (hB4.range 0 rfl))) (rfl : _ = [_, _, _, _, _, _, _, _]) ?_
  refine s_callb 25 _ _ (by kernel_rfl) rfl rfl (has_c (hT.at_ hb) e.dot) ?_
  intro b8 w9 hb8 hb10
  refine norm (rfl : _ = [_, _, _, _, _, _, _, _]) ?_
  have hc11 := Chg.of_bel hb10
  have hs12 := hc11.size
  replace hb := hb.chg hc11 (by omega)
  replace hX := hX.chg hc11 (by omega)
  replace hB4 := hB4.chg hc11 (by omega)
  refine s_val (v := (.bool b8)) rfl (r_assign rfl) (rfl : _ = [_, _, _, _, _, _, _, _]) ?_
  refine s_nil rfl ?_
  refine x_seq ?_
  refine c_ret ?_
  refine post_ret rfl rfl ?_
  exact ⟨by subst_vars; rfl, hb⟩

theorem cut_c {ok ok2 : Nat → Prop} {w : World} {v v2 : Value} {l : List Ev} {xs : List Int} (hS : Sl kEv ok w v l) (hT : Sl kInt ok2 w v2 xs) :
    CallsV Try.prog 24 #[v, v2] w (fun r w' => Sl kEv (Rg 0 w.heap.size w'.heap.size) w' r (l.filter fun e => hasV xs e.dot) ∧ Bel w w') := by
  have hb := Bel.refl w
  replace hS : Sl kEv (Rg w.heap.size 0 0) w v l := hS.weak (by decide) (fun b _ hl => .inl hl)
  have hSlim := lim_le hS.lim
  replace hT : Sl kInt (Rg w.heap.size 0 0) w v2 xs := hT.weak (by decide) (fun b _ hl => .inl hl)
  have hTlim := lim_le hT.lim
  refine callsV_of Try.func24 (m := 6) Try.ntmps24 rfl rfl (l := [v, v2, undef, undef, undef, undef, undef, undef]) rfl ?_
  refine c_seq ?_
  refine c_region ?_
  refine s_box (v := v2) 23 _ rfl rfl ?_
  intro a1 w2 he3 hB4 hc5 hz6
  refine norm (rfl : _ = [_, _, _, _, _, _, _, _]) ?_
  rw [(hT.at_ hb).cells] at hB4
  have hs7 := hc5.size
  replace hb := hb.chg hc5 (by omega)
  refine s_val (v := (.slice none 0 0)) rfl (r_assign rfl) (rfl : _ = [_, _, _, _, _, _, _, _]) ?_
  refine s_nil rfl ?_
  refine x_seq ?_
  refine c_seq ?_
  refine c_region ?_
  refine s_val (v := v) rfl (r_move rfl) (rfl : _ = [_, _, _, _, _, _, _, _]) ?_
  refine s_val (v := (.func (.func 59) #[] #[(.pointer (some ⟨a1, 0, none⟩))])) rfl (r_makeFunc rfl) (rfl : _ = [_, _, _, _, _, _, _, _]) ?_
  refine s_call 58 _ _ (by kernel_rfl) rfl rfl (where_c (f := 59) (cap := [.pointer (some ⟨a1, 0, none⟩)]) (hS.at_ hb) (n := w2.heap.size) (h := w2.heap.size) (by omega) (by omega) (fun b hb hl => by unfold Rg at hb; omega) (by kernel_rfl) (fun (_ : Unit) (e : Ev) => (hasV xs e.dot, ())) () (fun _ w_ => Bx w_ a1 [v2] 23 ∧ Sl kInt (Rg w.heap.size 0 0) w_ v2 xs) ⟨hB4, (hT.at_ hb)⟩ (fun s w1 w2 p q hj hc hpq => ⟨hj.1.chg hc (by omega), hj.2.chg hc (by omega)⟩) (fun s w1 e cs ok' hj hc hrd => by obtain ⟨d, rfl, hd⟩ := kEv_cells.1 hrd; exact (cut1_c hd hj.2 hj.1).mono (fun r w2 hh => ⟨hh.1, ⟨hj.1.below hh.2, hj.2.chg (Chg.of_bel hh.2) (by omega)⟩, (Chg.of_bel hh.2).wide (by omega)⟩))) ?_
  rintro v8 w9 ⟨hSw, hJ10, hc11⟩
  refine norm (rfl : _ = [_, _, _, _, _, _, _, _]) ?_
  have hs12 := hc11.size
  replace hb := hb.chg hc11 (by omega)
  refine s_val (v := v8) rfl (r_assign rfl) (rfl : _ = [_, _, _, _, _, _, _, _]) ?_
  refine s_nil rfl ?_
  refine x_seq ?_
  refine c_ret ?_
  refine post_ret rfl rfl ?_
  refine ⟨?_, hb⟩
  rw [show (l.filter fun e => hasV xs e.dot) = _ from (whereL_unit (fun (_ : Unit) (e : Ev) => (hasV xs e.dot, ())) l).symm]
  exact hSw.rg (by decide) (fun b hl hh => by omega)

theorem cartPieces_c {ok ok2 : Nat → Prop} {w : World} {u u2 : Value} {l : List Ev} {v : List Int} (hS : Sl kEv ok w u l) (hT : Sl kInt ok2 w u2 v) (name sku : ByteArray) (hw : ∀ e ∈ l, e.sku.size ≤ maxLen) (hll : l.length ≤ 1048576) :
    CallsV Try.prog 6 #[u, u2, (.string name), (.string sku)] w (fun r w' => r = .bool true ∧ Bel w w') := by
  have hb := Bel.refl w
  replace hS : Sl kEv (Rg w.heap.size 0 0) w u l := hS.weak (by decide) (fun b _ hl => .inl hl)
  have hSlim := lim_le hS.lim
  replace hT : Sl kInt (Rg w.heap.size 0 0) w u2 v := hT.weak (by decide) (fun b _ hl => .inl hl)
  have hTlim := lim_le hT.lim
  refine callsV_of Try.func6 (m := 82) Try.ntmps6 rfl rfl (l := [u, u2, .string name, .string sku, undef, undef, undef, undef, undef, undef, undef, undef, undef, undef, undef, undef, undef, undef, undef, undef, undef, undef, undef, undef, undef, undef, undef, undef, undef, undef, undef, undef, undef, undef, undef, undef, undef, undef, undef, undef, undef, undef, undef, undef, undef, undef, undef, undef, undef, undef, undef, undef, undef, undef, undef, undef, undef, undef, undef, undef, undef, undef, undef, undef, undef, undef, undef, undef, undef, undef, undef, undef, undef, undef, undef, undef, undef, undef, undef, undef, undef, undef, undef, undef, undef, undef]) rfl ?_
  refine c_seq ?_
  refine c_region ?_
  refine s_val (v := (.bool false)) rfl (r_assign rfl) (rfl : _ = [_, _, _, _, _, _, _, _, _, _, _, _, _, _, _, _, _, _, _, _, _, _, _, _, _, _, _, _, _, _, _, _, _, _, _, _, _, _, _, _, _, _, _, _, _, _, _, _, _, _, _, _, _, _, _, _, _, _, _, _, _, _, _, _, _, _, _, _, _, _, _, _, _, _, _, _, _, _, _, _, _, _, _, _, _, _]) ?_
  refine s_nil rfl ?_
  refine x_seq ?_
  refine c_seq ?_
  refine c_seq ?_
  refine c_region ?_
  refine s_call 19 _ _ (by kernel_rfl) rfl rfl (lives11_c) ?_
  rintro _ w1 ⟨rfl, hb2⟩
  refine norm (rfl : _ = [_, _, _, _, _, _, _, _, _, _, _, _, _, _, _, _, _, _, _, _, _, _, _, _, _, _, _, _, _, _, _, _, _, _, _, _, _, _, _, _, _, _, _, _, _, _, _, _, _, _, _, _, _, _, _, _, _, _, _, _, _, _, _, _, _, _, _, _, _, _, _, _, _, _, _, _, _, _, _, _, _, _, _, _, _, _]) ?_
  have hc3 := Chg.of_bel hb2
  have hs4 := hc3.size
  replace hb := hb.chg hc3 (by omega)
  refine s_val rfl (r_not rfl rfl) (rfl : _ = [_, _, _, _, _, _, _, _, _, _, _, _, _, _, _, _, _, _, _, _, _, _, _, _, _, _, _, _, _, _, _, _, _, _, _, _, _, _, _, _, _, _, _, _, _, _, _, _, _, _, _, _, _, _, _, _, _, _, _, _, _, _, _, _, _, _, _, _, _, _, _, _, _, _, _, _, _, _, _, _, _, _, _, _, _, _]) ?_
  refine s_nil rfl ?_
  refine x_seq ?_
  refine c_cond rfl (fun hh => by cases hh) (fun _ => ?_)
  refine c_skip ?_
  refine x_seq ?_
  refine c_seq ?_
  refine c_seq ?_
  refine c_region ?_
  refine s_val (v := u) rfl (r_move rfl) (rfl : _ = [_, _, _, _, _, _, _, _, _, _, _, _, _, _, _, _, _, _, _, _, _, _, _, _, _, _, _, _, _, _, _, _, _, _, _, _, _, _, _, _, _, _, _, _, _, _, _, _, _, _, _, _, _, _, _, _, _, _, _, _, _, _, _, _, _, _, _, _, _, _, _, _, _, _, _, _, _, _, _, _, _, _, _, _, _, _]) ?_
  refine s_callb 20 _ _ (by kernel_rfl) rfl rfl (right_c (hS.at_ hb)) ?_
  intro b5 w6 hb5 hb7
  refine norm (rfl : _ = [_, _, _, _, _, _, _, _, _, _, _, _, _, _, _, _, _, _, _, _, _, _, _, _, _, _, _, _, _, _, _, _, _, _, _, _, _, _, _, _, _, _, _, _, _, _, _, _, _, _, _, _, _, _, _, _, _, _, _, _, _, _, _, _, _, _, _, _, _, _, _, _, _, _, _, _, _, _, _, _, _, _, _, _, _, _]) ?_
  have hc8 := Chg.of_bel hb7
  have hs9 := hc8.size
  replace hb := hb.chg hc8 (by omega)
  refine s_val rfl (r_not rfl rfl) (rfl : _ = [_, _, _, _, _, _, _, _, _, _, _, _, _, _, _, _, _, _, _, _, _, _, _, _, _, _, _, _, _, _, _, _, _, _, _, _, _, _, _, _, _, _, _, _, _, _, _, _, _, _, _, _, _, _, _, _, _, _, _, _, _, _, _, _, _, _, _, _, _, _, _, _, _, _, _, _, _, _, _, _, _, _, _, _, _, _]) ?_
  refine s_nil rfl ?_
  refine x_seq ?_
  cases b5 with
  | true =>
    replace hb5 := toB_t hb5
    refine c_cond rfl (fun hh => by cases hh) (fun _ => ?_)
    refine c_skip ?_
    refine x_seq ?_
    refine c_seq ?_
    refine c_seq ?_
    refine c_region ?_
    refine s_val (v := (.int .i64 0)) rfl (r_assign rfl) (rfl : _ = [_, _, _, _, _, _, _, _, _, _, _, _, _, _, _, _, _, _, _, _, _, _, _, _, _, _, _, _, _, _, _, _, _, _, _, _, _, _, _, _, _, _, _, _, _, _, _, _, _, _, _, _, _, _, _, _, _, _, _, _, _, _, _, _, _, _, _, _, _, _, _, _, _, _, _, _, _, _, _, _, _, _, _, _, _, _]) ?_
    refine s_nil rfl ?_
    refine x_seq ?_
    refine c_block ?_
    refine c_loop (fun kk_ fr_ wr10 => ∃ (i : Nat) (jk11 : Nat → Value), kk_ = l.length - i ∧ fr_ = [u, u2, .string name, .string sku, jk11 0, jk11 1, jk11 2, jk11 3, jk11 4, .int .i64 (i : Int), undef, undef, undef, jk11 5, jk11 6, jk11 7, jk11 8, jk11 9, jk11 10, jk11 11, jk11 12, jk11 13, jk11 14, jk11 15, jk11 16, jk11 17, jk11 18, jk11 19, jk11 20, undef, undef, undef, undef, undef, undef, undef, undef, undef, undef, undef, undef, undef, undef, undef, undef, undef, undef, undef, undef, undef, undef, undef, undef, undef, undef, undef, undef, undef, undef, undef, undef, undef, undef, undef, undef, undef, undef, undef, undef, undef, undef, undef, undef, undef, undef, undef, undef, undef, undef, undef, undef, undef, undef, undef, undef, undef] ∧ (i ≤ l.length) ∧ (∀ j, j < i → ∀ e, l[j]? = some e → e.clears = false) ∧ Bel w wr10 ∧ w6.heap.size ≤ wr10.heap.size) _ ⟨0, (fun n_ => ([undef, undef, undef, undef, .bool false, .bool true, .bool false, u, .bool true, .bool false, undef, undef, undef, undef, undef, undef, undef, undef, undef, undef, undef] : List Value).getD n_ undef), rfl, rfl, (Nat.zero_le _), (fun j hj => absurd hj (Nat.not_lt_zero _)), hb, (Nat.le_refl _)⟩ ?_
    rintro _ _ wr10 ⟨i, jk11, rfl, rfl, hi, hall, hb12, hws13⟩
    have hs14 := hb12.size
    refine c_seq ?_
    refine c_seq ?_
    refine c_region ?_
    refine s_val (v := (.int .i64 (i : Int))) rfl (r_move rfl) (rfl : _ = [_, _, _, _, _, _, _, _, _, _, _, _, _, _, _, _, _, _, _, _, _, _, _, _, _, _, _, _, _, _, _, _, _, _, _, _, _, _, _, _, _, _, _, _, _, _, _, _, _, _, _, _, _, _, _, _, _, _, _, _, _, _, _, _, _, _, _, _, _, _, _, _, _, _, _, _, _, _, _, _, _, _, _, _, _, _]) ?_
    refine s_val (v := u) rfl (r_move rfl) (rfl : _ = [_, _, _, _, _, _, _, _, _, _, _, _, _, _, _, _, _, _, _, _, _, _, _, _, _, _, _, _, _, _, _, _, _, _, _, _, _, _, _, _, _, _, _, _, _, _, _, _, _, _, _, _, _, _, _, _, _, _, _, _, _, _, _, _, _, _, _, _, _, _, _, _, _, _, _, _, _, _, _, _, _, _, _, _, _, _]) ?_
    refine s_val (v := (.int .i64 (l.length : Int))) rfl ((hS.at_ hb12).len Try.underlying34 rfl _) (rfl : _ = [_, _, _, _, _, _, _, _, _, _, _, _, _, _, _, _, _, _, _, _, _, _, _, _, _, _, _, _, _, _, _, _, _, _, _, _, _, _, _, _, _, _, _, _, _, _, _, _, _, _, _, _, _, _, _, _, _, _, _, _, _, _, _, _, _, _, _, _, _, _, _, _, _, _, _, _, _, _, _, _, _, _, _, _, _, _]) ?_
    refine s_bool (p := ((i : Int) < (l.length : Int) : Prop)) rfl (r_lss rfl rfl) decide_eq_true_iff ?_
    intro b15 hb15
    refine norm (rfl : _ = [_, _, _, _, _, _, _, _, _, _, _, _, _, _, _, _, _, _, _, _, _, _, _, _, _, _, _, _, _, _, _, _, _, _, _, _, _, _, _, _, _, _, _, _, _, _, _, _, _, _, _, _, _, _, _, _, _, _, _, _, _, _, _, _, _, _, _, _, _, _, _, _, _, _, _, _, _, _, _, _, _, _, _, _, _, _]) ?_
    refine s_nil rfl ?_
    refine x_seq ?_
    cases b15 with
    | true =>
      replace hb15 := bt hb15
      refine c_cond rfl (fun _ => ?_) (fun hh => by cases hh)
      refine c_skip ?_
      refine x_seq ?_
      refine c_seq ?_
      refine c_block ?_
      refine c_seq ?_
      refine c_region ?_
      refine s_val (v := u) rfl (r_move rfl) (rfl : _ = [_, _, _, _, _, _, _, _, _, _, _, _, _, _, _, _, _, _, _, _, _, _, _, _, _, _, _, _, _, _, _, _, _, _, _, _, _, _, _, _, _, _, _, _, _, _, _, _, _, _, _, _, _, _, _, _, _, _, _, _, _, _, _, _, _, _, _, _, _, _, _, _, _, _, _, _, _, _, _, _, _, _, _, _, _, _]) ?_
      refine s_val (v := (.int .i64 (i : Int))) rfl (r_move rfl) (rfl : _ = [_, _, _, _, _, _, _, _, _, _, _, _, _, _, _, _, _, _, _, _, _, _, _, _, _, _, _, _, _, _, _, _, _, _, _, _, _, _, _, _, _, _, _, _, _, _, _, _, _, _, _, _, _, _, _, _, _, _, _, _, _, _, _, _, _, _, _, _, _, _, _, _, _, _, _, _, _, _, _, _, _, _, _, _, _, _]) ?_
      obtain ⟨e16, a17, o18, c19, he20, hc21, hr22, hk23, hi24⟩ := (hS.at_ hb12).idx (j := (i : Int)) (by first | omega | decide) (by first | omega | simp)
      rw [Int.toNat_natCast] at he20
      obtain ⟨d25, rfl, hd26⟩ := kEv_cells.1 hc21
      refine s_val rfl (hi24 _ _ _ _ _ _ _ (by kernel_rfl) rfl rfl) (rfl : _ = [_, _, _, _, _, _, _, _, _, _, _, _, _, _, _, _, _, _, _, _, _, _, _, _, _, _, _, _, _, _, _, _, _, _, _, _, _, _, _, _, _, _, _, _, _, _, _, _, _, _, _, _, _, _, _, _, _, _, _, _, _, _, _, _, _, _, _, _, _, _, _, _, _, _, _, _, _, _, _, _, _, _, _, _, _, _]) ?_
      refine s_val (v := (.pointer (some ⟨a17, o18 + 7, none⟩))) rfl (r_field (k := 7) (o := o18) (by kernel_rfl) rfl) (rfl : _ = [_, _, _, _, _, _, _, _, _, _, _, _, _, _, _, _, _, _, _, _, _, _, _, _, _, _, _, _, _, _, _, _, _, _, _, _, _, _, _, _, _, _, _, _, _, _, _, _, _, _, _, _, _, _, _, _, _, _, _, _, _, _, _, _, _, _, _, _, _, _, _, _, _, _, _, _, _, _, _, _, _, _, _, _, _, _]) ?_
      refine s_boolv rfl (r_load rfl (Ld.one Try.underlying4 rfl (hr22 7 _ rfl))) ?_
      intro b27 hb27
      refine norm (rfl : _ = [_, _, _, _, _, _, _, _, _, _, _, _, _, _, _, _, _, _, _, _, _, _, _, _, _, _, _, _, _, _, _, _, _, _, _, _, _, _, _, _, _, _, _, _, _, _, _, _, _, _, _, _, _, _, _, _, _, _, _, _, _, _, _, _, _, _, _, _, _, _, _, _, _, _, _, _, _, _, _, _, _, _, _, _, _, _]) ?_
      refine s_nil rfl ?_
      refine x_seq ?_
      cases b27 with
      | true =>
        refine c_cond rfl (fun _ => ?_) (fun hh => by cases hh)
        refine c_seq ?_
        refine c_region ?_
        refine s_val (v := (.bool true)) rfl (r_assign rfl) (rfl : _ = [_, _, _, _, _, _, _, _, _, _, _, _, _, _, _, _, _, _, _, _, _, _, _, _, _, _, _, _, _, _, _, _, _, _, _, _, _, _, _, _, _, _, _, _, _, _, _, _, _, _, _, _, _, _, _, _, _, _, _, _, _, _, _, _, _, _, _, _, _, _, _, _, _, _, _, _, _, _, _, _, _, _, _, _, _, _]) ?_
        refine s_nil rfl ?_
        refine x_seq ?_
        refine c_ret ?_
        refine x_block_ret ?_
        refine x_then_ret ?_
        refine x_then_ret ?_
        refine x_block_ret ?_
        refine x_then_ret ?_
        refine post_ret rfl rfl ?_
        exact ⟨rfl, hb12⟩
      | false =>
        refine c_cond rfl (fun hh => by cases hh) (fun _ => ?_)
        refine c_skip ?_
        refine x_block ?_
        refine x_seq ?_
        refine c_region ?_
        refine s_val (v := (.int .i64 (i : Int))) rfl (r_move rfl) (rfl : _ = [_, _, _, _, _, _, _, _, _, _, _, _, _, _, _, _, _, _, _, _, _, _, _, _, _, _, _, _, _, _, _, _, _, _, _, _, _, _, _, _, _, _, _, _, _, _, _, _, _, _, _, _, _, _, _, _, _, _, _, _, _, _, _, _, _, _, _, _, _, _, _, _, _, _, _, _, _, _, _, _, _, _, _, _, _, _]) ?_
        refine s_val (v := (.int .i64 ((i : Int) + 1))) rfl (r_add (c := (i : Int) + 1) rfl rfl (i64_in (by omega) (by omega))) (rfl : _ = [_, _, _, _, _, _, _, _, _, _, _, _, _, _, _, _, _, _, _, _, _, _, _, _, _, _, _, _, _, _, _, _, _, _, _, _, _, _, _, _, _, _, _, _, _, _, _, _, _, _, _, _, _, _, _, _, _, _, _, _, _, _, _, _, _, _, _, _, _, _, _, _, _, _, _, _, _, _, _, _, _, _, _, _, _, _]) ?_
        refine s_val (v := (.int .i64 ((i : Int) + 1))) rfl (r_assign rfl) (rfl : _ = [_, _, _, _, _, _, _, _, _, _, _, _, _, _, _, _, _, _, _, _, _, _, _, _, _, _, _, _, _, _, _, _, _, _, _, _, _, _, _, _, _, _, _, _, _, _, _, _, _, _, _, _, _, _, _, _, _, _, _, _, _, _, _, _, _, _, _, _, _, _, _, _, _, _, _, _, _, _, _, _, _, _, _, _, _, _]) ?_
        refine s_nil rfl ?_
        refine x_then ?_
        refine ⟨_, _, ?_, rfl, (i + 1), (fun n_ => ([jk11 0, jk11 1, jk11 2, jk11 3, jk11 4, jk11 5, jk11 6, jk11 7, jk11 8, jk11 9, .int .i64 (i : Int), u, .int .i64 (l.length : Int), .bool true, .int .i64 (i : Int), .int .i64 ((i : Int) + 1), u, .int .i64 (i : Int), .pointer (some ⟨a17, o18, none⟩), .pointer (some ⟨a17, o18 + 7, none⟩), .bool false] : List Value).getD n_ undef), rfl, rfl, (by omega), (all_succ hall (fun e0 he0 => by rw [he20] at he0; injection he0 with he0; subst he0; assumption)), hb12, (by omega)⟩
        omega
    | false =>
      replace hb15 := bf hb15
      refine c_cond rfl (fun hh => by cases hh) (fun _ => ?_)
      refine c_exit ?_
      refine x_then_exit ?_
      refine x_then_exit ?_
      refine x_block_same ?_
      have hncl : ∀ e ∈ l, e.clears = false := fun e he => by obtain ⟨j, hj⟩ := List.getElem?_of_mem he; exact hall j (by have := (List.getElem?_eq_some_iff.1 hj).1; omega) e hj
      refine x_seq ?_
      refine c_seq ?_
      refine c_region ?_
      refine s_val (v := u) rfl (r_move rfl) (rfl : _ = [_, _, _, _, _, _, _, _, _, _, _, _, _, _, _, _, _, _, _, _, _, _, _, _, _, _, _, _, _, _, _, _, _, _, _, _, _, _, _, _, _, _, _, _, _, _, _, _, _, _, _, _, _, _, _, _, _, _, _, _, _, _, _, _, _, _, _, _, _, _, _, _, _, _, _, _, _, _, _, _, _, _, _, _, _, _]) ?_
      refine s_val (v := u2) rfl (r_move rfl) (rfl : _ = [_, _, _, _, _, _, _, _, _, _, _, _, _, _, _, _, _, _, _, _, _, _, _, _, _, _, _, _, _, _, _, _, _, _, _, _, _, _, _, _, _, _, _, _, _, _, _, _, _, _, _, _, _, _, _, _, _, _, _, _, _, _, _, _, _, _, _, _, _, _, _, _, _, _, _, _, _, _, _, _, _, _, _, _, _, _]) ?_
      refine s_call 24 _ _ (by kernel_rfl) rfl rfl (cut_c (hS.at_ hb12) (hT.at_ hb12)) ?_
      rintro v28 w29 ⟨hS30, hb31⟩
      refine norm (rfl : _ = [_, _, _, _, _, _, _, _, _, _, _, _, _, _, _, _, _, _, _, _, _, _, _, _, _, _, _, _, _, _, _, _, _, _, _, _, _, _, _, _, _, _, _, _, _, _, _, _, _, _, _, _, _, _, _, _, _, _, _, _, _, _, _, _, _, _, _, _, _, _, _, _, _, _, _, _, _, _, _, _, _, _, _, _, _, _]) ?_
      have hc32 := Chg.of_bel hb31
      have hs33 := hc32.size
      replace hb12 := hb12.chg hc32 (by omega)
      refine s_val (v := v28) rfl (r_assign rfl) (rfl : _ = [_, _, _, _, _, _, _, _, _, _, _, _, _, _, _, _, _, _, _, _, _, _, _, _, _, _, _, _, _, _, _, _, _, _, _, _, _, _, _, _, _, _, _, _, _, _, _, _, _, _, _, _, _, _, _, _, _, _, _, _, _, _, _, _, _, _, _, _, _, _, _, _, _, _, _, _, _, _, _, _, _, _, _, _, _, _]) ?_
      refine s_nil rfl ?_
      refine x_seq ?_
      refine c_seq ?_
      refine c_region ?_
      refine s_val (v := (.slice none 0 0)) rfl (r_assign rfl) (rfl : _ = [_, _, _, _, _, _, _, _, _, _, _, _, _, _, _, _, _, _, _, _, _, _, _, _, _, _, _, _, _, _, _, _, _, _, _, _, _, _, _, _, _, _, _, _, _, _, _, _, _, _, _, _, _, _, _, _, _, _, _, _, _, _, _, _, _, _, _, _, _, _, _, _, _, _, _, _, _, _, _, _, _, _, _, _, _, _]) ?_
      refine s_nil rfl ?_
      refine x_seq ?_
      refine c_seq ?_
      refine c_seq ?_
      refine c_region ?_
      refine s_val (v := (.int .i64 0)) rfl (r_assign rfl) (rfl : _ = [_, _, _, _, _, _, _, _, _, _, _, _, _, _, _, _, _, _, _, _, _, _, _, _, _, _, _, _, _, _, _, _, _, _, _, _, _, _, _, _, _, _, _, _, _, _, _, _, _, _, _, _, _, _, _, _, _, _, _, _, _, _, _, _, _, _, _, _, _, _, _, _, _, _, _, _, _, _, _, _, _, _, _, _, _, _]) ?_
      refine s_nil rfl ?_
      refine x_seq ?_
      refine c_block ?_
      refine c_loop (fun kk_ fr_ wr34 => ∃ (j : Nat) (out : Value) (hh : Nat) (jk35 : Nat → Value), kk_ = l.length - j ∧ fr_ = [u, u2, .string name, .string sku, jk35 0, jk35 1, jk35 2, jk35 3, jk11 4, jk35 4, v28, out, .int .i64 (j : Int), jk35 5, jk35 6, jk35 7, jk35 8, jk35 9, jk35 10, jk35 11, jk35 12, jk35 13, jk35 14, jk35 15, jk35 16, jk35 17, jk35 18, jk35 19, jk35 20, jk35 21, jk35 22, jk35 23, jk35 24, jk35 25, jk35 26, jk35 27, jk35 28, jk35 29, jk35 30, jk35 31, jk35 32, jk35 33, jk35 34, jk35 35, jk35 36, jk35 37, jk35 38, jk35 39, jk35 40, jk35 41, jk35 42, jk35 43, jk35 44, undef, undef, undef, undef, undef, undef, undef, undef, undef, undef, undef, undef, undef, undef, undef, undef, undef, undef, undef, undef, undef, undef, undef, undef, undef, undef, undef, undef, undef, undef, undef, undef, undef] ∧ (j ≤ l.length) ∧ Bel w wr34 ∧ w29.heap.size ≤ wr34.heap.size ∧ OwnX kEv 39 w.heap.size w29.heap.size hh wr34 out ((l.take j).filter fun e => !hasV v e.dot) ∧ Sl kEv (Rg 0 wr10.heap.size w29.heap.size) wr34 v28 (l.filter fun e => hasV v e.dot)) _ ⟨0, (.slice none 0 0), w29.heap.size, (fun n_ => ([jk11 0, jk11 1, jk11 2, jk11 3, .int .i64 (i : Int), jk11 5, jk11 6, jk11 7, jk11 8, jk11 9, .int .i64 (i : Int), u, .int .i64 (l.length : Int), .bool false, jk11 14, jk11 15, jk11 16, jk11 17, jk11 18, jk11 19, jk11 20, u, u2, v28, undef, undef, undef, undef, undef, undef, undef, undef, undef, undef, undef, undef, undef, undef, undef, undef, undef, undef, undef, undef, undef] : List Value).getD n_ undef), rfl, rfl, (Nat.zero_le _), hb12, (Nat.le_refl _), (OwnX.nil _ _ (by omega) (by omega)), hS30⟩ ?_
      rintro _ _ wr34 ⟨j, out, hh, jk35, rfl, rfl, hj, hb36, hws37, hO, hS30⟩
      have hs38 := hb36.size
      have hl39 := hO.hi
      have hl40 := lim_le hO.lim
      have hl41 := lim_le hS30.lim
      refine c_seq ?_
      refine c_seq ?_
      refine c_region ?_
      refine s_val (v := (.int .i64 (j : Int))) rfl (r_move rfl) (rfl : _ = [_, _, _, _, _, _, _, _, _, _, _, _, _, _, _, _, _, _, _, _, _, _, _, _, _, _, _, _, _, _, _, _, _, _, _, _, _, _, _, _, _, _, _, _, _, _, _, _, _, _, _, _, _, _, _, _, _, _, _, _, _, _, _, _, _, _, _, _, _, _, _, _, _, _, _, _, _, _, _, _, _, _, _, _, _, _]) ?_
      refine s_val (v := u) rfl (r_move rfl) (rfl : _ = [_, _, _, _, _, _, _, _, _, _, _, _, _, _, _, _, _, _, _, _, _, _, _, _, _, _, _, _, _, _, _, _, _, _, _, _, _, _, _, _, _, _, _, _, _, _, _, _, _, _, _, _, _, _, _, _, _, _, _, _, _, _, _, _, _, _, _, _, _, _, _, _, _, _, _, _, _, _, _, _, _, _, _, _, _, _]) ?_
      refine s_val (v := (.int .i64 (l.length : Int))) rfl ((hS.at_ hb36).len Try.underlying34 rfl _) (rfl : _ = [_, _, _, _, _, _, _, _, _, _, _, _, _, _, _, _, _, _, _, _, _, _, _, _, _, _, _, _, _, _, _, _, _, _, _, _, _, _, _, _, _, _, _, _, _, _, _, _, _, _, _, _, _, _, _, _, _, _, _, _, _, _, _, _, _, _, _, _, _, _, _, _, _, _, _, _, _, _, _, _, _, _, _, _, _, _]) ?_
      refine s_bool (p := ((j : Int) < (l.length : Int) : Prop)) rfl (r_lss rfl rfl) decide_eq_true_iff ?_
      intro b42 hb42
      refine norm (rfl : _ = [_, _, _, _, _, _, _, _, _, _, _, _, _, _, _, _, _, _, _, _, _, _, _, _, _, _, _, _, _, _, _, _, _, _, _, _, _, _, _, _, _, _, _, _, _, _, _, _, _, _, _, _, _, _, _, _, _, _, _, _, _, _, _, _, _, _, _, _, _, _, _, _, _, _, _, _, _, _, _, _, _, _, _, _, _, _]) ?_
      refine s_nil rfl ?_
      refine x_seq ?_
      cases b42 with
      | true =>
        replace hb42 := bt hb42
        refine c_cond rfl (fun _ => ?_) (fun hh => by cases hh)
        refine c_skip ?_
        refine x_seq ?_
        refine c_seq ?_
        refine c_block ?_
        refine c_seq ?_
        refine c_region ?_
        refine s_val (v := u2) rfl (r_move rfl) (rfl : _ = [_, _, _, _, _, _, _, _, _, _, _, _, _, _, _, _, _, _, _, _, _, _, _, _, _, _, _, _, _, _, _, _, _, _, _, _, _, _, _, _, _, _, _, _, _, _, _, _, _, _, _, _, _, _, _, _, _, _, _, _, _, _, _, _, _, _, _, _, _, _, _, _, _, _, _, _, _, _, _, _, _, _, _, _, _, _]) ?_
        refine s_val (v := u) rfl (r_move rfl) (rfl : _ = [_, _, _, _, _, _, _, _, _, _, _, _, _, _, _, _, _, _, _, _, _, _, _, _, _, _, _, _, _, _, _, _, _, _, _, _, _, _, _, _, _, _, _, _, _, _, _, _, _, _, _, _, _, _, _, _, _, _, _, _, _, _, _, _, _, _, _, _, _, _, _, _, _, _, _, _, _, _, _, _, _, _, _, _, _, _]) ?_
        refine s_val (v := (.int .i64 (j : Int))) rfl (r_move rfl) (rfl : _ = [_, _, _, _, _, _, _, _, _, _, _, _, _, _, _, _, _, _, _, _, _, _, _, _, _, _, _, _, _, _, _, _, _, _, _, _, _, _, _, _, _, _, _, _, _, _, _, _, _, _, _, _, _, _, _, _, _, _, _, _, _, _, _, _, _, _, _, _, _, _, _, _, _, _, _, _, _, _, _, _, _, _, _, _, _, _]) ?_
        obtain ⟨e43, a44, o45, c46, he47, hc48, hr49, hk50, hi51⟩ := (hS.at_ hb36).idx (j := (j : Int)) (by first | omega | decide) (by first | omega | simp)
        rw [Int.toNat_natCast] at he47
        obtain ⟨d52, rfl, hd53⟩ := kEv_cells.1 hc48
        refine s_val rfl (hi51 _ _ _ _ _ _ _ (by kernel_rfl) rfl rfl) (rfl : _ = [_, _, _, _, _, _, _, _, _, _, _, _, _, _, _, _, _, _, _, _, _, _, _, _, _, _, _, _, _, _, _, _, _, _, _, _, _, _, _, _, _, _, _, _, _, _, _, _, _, _, _, _, _, _, _, _, _, _, _, _, _, _, _, _, _, _, _, _, _, _, _, _, _, _, _, _, _, _, _, _, _, _, _, _, _, _]) ?_
        refine s_val (v := (.pointer (some ⟨a44, o45 + 0, none⟩))) rfl (r_field (k := 0) (o := o45) (by kernel_rfl) rfl) (rfl : _ = [_, _, _, _, _, _, _, _, _, _, _, _, _, _, _, _, _, _, _, _, _, _, _, _, _, _, _, _, _, _, _, _, _, _, _, _, _, _, _, _, _, _, _, _, _, _, _, _, _, _, _, _, _, _, _, _, _, _, _, _, _, _, _, _, _, _, _, _, _, _, _, _, _, _, _, _, _, _, _, _, _, _, _, _, _, _]) ?_
        refine s_val (v := (.agg #[.int .i64 e43.dot.o, .int .i64 e43.dot.s])) rfl (r_load rfl (Ld.row (cs := [.int .i64 e43.dot.o, .int .i64 e43.dot.s]) Try.underlying37 rfl (by kernel_rfl) (range_sub hr49 0 rfl))) (rfl : _ = [_, _, _, _, _, _, _, _, _, _, _, _, _, _, _, _, _, _, _, _, _, _, _, _, _, _, _, _, _, _, _, _, _, _, _, _, _, _, _, _, _, _, _, _, _, _, _, _, _, _, _, _, _, _, _, _, _, _, _, _, _, _, _, _, _, _, _, _, _, _, _, _, _, _, _, _, _, _, _, _, _, _, _, _, _, _]) ?_
        refine s_callb 25 _ _ (by kernel_rfl) rfl rfl (has_c (hT.at_ hb36) e43.dot) ?_
        intro b54 w55 hb54 hb56
        refine norm (rfl : _ = [_, _, _, _, _, _, _, _, _, _, _, _, _, _, _, _, _, _, _, _, _, _, _, _, _, _, _, _, _, _, _, _, _, _, _, _, _, _, _, _, _, _, _, _, _, _, _, _, _, _, _, _, _, _, _, _, _, _, _, _, _, _, _, _, _, _, _, _, _, _, _, _, _, _, _, _, _, _, _, _, _, _, _, _, _, _]) ?_
        have hc57 := Chg.of_bel hb56
        have hs58 := hc57.size
        replace hb36 := hb36.chg hc57 (by omega)
        replace hO := hO.chg hc57 (by omega)
        replace hS30 := hS30.chg hc57 (by omega)
        replace hd53 := hd53.chg hc57 (by omega)
        refine s_val rfl (r_not rfl rfl) (rfl : _ = [_, _, _, _, _, _, _, _, _, _, _, _, _, _, _, _, _, _, _, _, _, _, _, _, _, _, _, _, _, _, _, _, _, _, _, _, _, _, _, _, _, _, _, _, _, _, _, _, _, _, _, _, _, _, _, _, _, _, _, _, _, _, _, _, _, _, _, _, _, _, _, _, _, _, _, _, _, _, _, _, _, _, _, _, _, _]) ?_
        refine s_nil rfl ?_
        refine x_seq ?_
        cases b54 with
        | true =>
          refine c_cond rfl (fun hh => by cases hh) (fun _ => ?_)
          refine c_skip ?_
          refine x_block ?_
          refine x_seq ?_
          refine c_region ?_
          refine s_val (v := (.int .i64 (j : Int))) rfl (r_move rfl) (rfl : _ = [_, _, _, _, _, _, _, _, _, _, _, _, _, _, _, _, _, _, _, _, _, _, _, _, _, _, _, _, _, _, _, _, _, _, _, _, _, _, _, _, _, _, _, _, _, _, _, _, _, _, _, _, _, _, _, _, _, _, _, _, _, _, _, _, _, _, _, _, _, _, _, _, _, _, _, _, _, _, _, _, _, _, _, _, _, _]) ?_
          refine s_val (v := (.int .i64 ((j : Int) + 1))) rfl (r_add (c := (j : Int) + 1) rfl rfl (i64_in (by omega) (by omega))) (rfl : _ = [_, _, _, _, _, _, _, _, _, _, _, _, _, _, _, _, _, _, _, _, _, _, _, _, _, _, _, _, _, _, _, _, _, _, _, _, _, _, _, _, _, _, _, _, _, _, _, _, _, _, _, _, _, _, _, _, _, _, _, _, _, _, _, _, _, _, _, _, _, _, _, _, _, _, _, _, _, _, _, _, _, _, _, _, _, _]) ?_
          refine s_val (v := (.int .i64 ((j : Int) + 1))) rfl (r_assign rfl) (rfl : _ = [_, _, _, _, _, _, _, _, _, _, _, _, _, _, _, _, _, _, _, _, _, _, _, _, _, _, _, _, _, _, _, _, _, _, _, _, _, _, _, _, _, _, _, _, _, _, _, _, _, _, _, _, _, _, _, _, _, _, _, _, _, _, _, _, _, _, _, _, _, _, _, _, _, _, _, _, _, _, _, _, _, _, _, _, _, _]) ?_
          refine s_nil rfl ?_
          refine x_then ?_
          have hf2 : (l.take (j + 1)).filter (fun e => !hasV v e.dot) = (l.take j).filter (fun e => !hasV v e.dot) ++ [] := by rw [take_snoc he47, List.filter_append, List.filter_cons]; simp [*]
          refine ⟨_, _, ?_, rfl, (j + 1), out, hh, (fun n_ => ([jk35 0, jk35 1, jk35 2, jk35 3, jk35 4, jk35 5, jk35 6, jk35 7, jk35 8, jk35 9, jk35 10, jk35 11, jk35 12, jk35 13, jk35 14, jk35 15, jk35 16, jk35 17, jk35 18, jk35 19, jk35 20, jk35 21, jk35 22, jk35 23, .int .i64 (j : Int), u, .int .i64 (l.length : Int), .bool true, .int .i64 (j : Int), .int .i64 ((j : Int) + 1), u2, u, .int .i64 (j : Int), .pointer (some ⟨a44, o45, none⟩), .pointer (some ⟨a44, o45 + 0, none⟩), .agg #[.int .i64 e43.dot.o, .int .i64 e43.dot.s], .bool true, .bool false, jk35 38, jk35 39, jk35 40, jk35 41, jk35 42, jk35 43, jk35 44] : List Value).getD n_ undef), rfl, rfl, (by omega), hb36, (by omega), (by rw [hf2]; simpa using hO), hS30⟩
          omega
        | false =>
          refine c_cond rfl (fun _ => ?_) (fun hh => by cases hh)
          refine c_region ?_
          refine s_val (v := out) rfl (r_move rfl) (rfl : _ = [_, _, _, _, _, _, _, _, _, _, _, _, _, _, _, _, _, _, _, _, _, _, _, _, _, _, _, _, _, _, _, _, _, _, _, _, _, _, _, _, _, _, _, _, _, _, _, _, _, _, _, _, _, _, _, _, _, _, _, _, _, _, _, _, _, _, _, _, _, _, _, _, _, _, _, _, _, _, _, _, _, _, _, _, _, _]) ?_
          refine s_val (v := u) rfl (r_move rfl) (rfl : _ = [_, _, _, _, _, _, _, _, _, _, _, _, _, _, _, _, _, _, _, _, _, _, _, _, _, _, _, _, _, _, _, _, _, _, _, _, _, _, _, _, _, _, _, _, _, _, _, _, _, _, _, _, _, _, _, _, _, _, _, _, _, _, _, _, _, _, _, _, _, _, _, _, _, _, _, _, _, _, _, _, _, _, _, _, _, _]) ?_
          refine s_val (v := (.int .i64 (j : Int))) rfl (r_move rfl) (rfl : _ = [_, _, _, _, _, _, _, _, _, _, _, _, _, _, _, _, _, _, _, _, _, _, _, _, _, _, _, _, _, _, _, _, _, _, _, _, _, _, _, _, _, _, _, _, _, _, _, _, _, _, _, _, _, _, _, _, _, _, _, _, _, _, _, _, _, _, _, _, _, _, _, _, _, _, _, _, _, _, _, _, _, _, _, _, _, _]) ?_
          obtain ⟨e59, a60, o61, c62, he63, hc64, hr65, hk66, hi67⟩ := (hS.at_ hb36).idx (j := (j : Int)) (by first | omega | decide) (by first | omega | simp)
          rw [Int.toNat_natCast] at he63
          rw [he47] at he63
          injection he63 with he63
          subst he63
          obtain ⟨d68, rfl, hd69⟩ := kEv_cells.1 hc64
          refine s_val rfl (hi67 _ _ _ _ _ _ _ (by kernel_rfl) rfl rfl) (rfl : _ = [_, _, _, _, _, _, _, _, _, _, _, _, _, _, _, _, _, _, _, _, _, _, _, _, _, _, _, _, _, _, _, _, _, _, _, _, _, _, _, _, _, _, _, _, _, _, _, _, _, _, _, _, _, _, _, _, _, _, _, _, _, _, _, _, _, _, _, _, _, _, _, _, _, _, _, _, _, _, _, _, _, _, _, _, _, _]) ?_
          refine s_val (v := (.agg #[.int .i64 e43.dot.o, .int .i64 e43.dot.s, d68, .string e43.cart, .int .i64 e43.epoch, .string e43.sku, .int .i64 e43.qty, .bool e43.clears])) rfl (r_load rfl (Ld.row Try.underlying39 rfl (by kernel_rfl) hr65)) (rfl : _ = [_, _, _, _, _, _, _, _, _, _, _, _, _, _, _, _, _, _, _, _, _, _, _, _, _, _, _, _, _, _, _, _, _, _, _, _, _, _, _, _, _, _, _, _, _, _, _, _, _, _, _, _, _, _, _, _, _, _, _, _, _, _, _, _, _, _, _, _, _, _, _, _, _, _, _, _, _, _, _, _, _, _, _, _, _, _]) ?_
          refine s_buildSlice (cs := [.int .i64 e43.dot.o, .int .i64 e43.dot.s, d68, .string e43.cart, .int .i64 e43.epoch, .string e43.sku, .int .i64 e43.qty, .bool e43.clears]) (e := 39) 34 1 _ rfl rfl (by kernel_rfl) ?_
          intro a70 w71 he72 hB73 hc74 hz75
          refine norm (rfl : _ = [_, _, _, _, _, _, _, _, _, _, _, _, _, _, _, _, _, _, _, _, _, _, _, _, _, _, _, _, _, _, _, _, _, _, _, _, _, _, _, _, _, _, _, _, _, _, _, _, _, _, _, _, _, _, _, _, _, _, _, _, _, _, _, _, _, _, _, _, _, _, _, _, _, _, _, _, _, _, _, _, _, _, _, _, _, _]) ?_
          have hs76 := hc74.size
          replace hb36 := hb36.chg hc74 (by omega)
          replace hO := hO.chg hc74 (by omega)
          replace hS30 := hS30.chg hc74 (by omega)
          replace hd53 := hd53.chg hc74 (by omega)
          replace hd69 := hd69.chg hc74 (by omega)
          refine s_appendX kEv (z := (.agg #[.int .i64 0, .int .i64 0, .slice none 0 0, .string ⟨#[]⟩, .int .i64 0, .string ⟨#[]⟩, .int .i64 0, .bool false])) (bytes := 96) (ys := [e43]) (ok2 := Rg w.heap.size 0 0) Try.underlying34 (by kernel_rfl) rfl (by decide) (by decide) (by decide) rfl hO rfl (flat_one (kEv_cells.2 ⟨_, rfl, hd69⟩)) (had_bx hB73) (by intro b hb hl; unfold Rg at hb; omega) (by have := List.length_filter_le (fun e : Ev => !hasV v e.dot) (l.take j); simp only [List.length_append, List.length_take, List.length_singleton, lim] at *; omega) ?_
          intro v77 w78 hO79 hc80
          refine norm (rfl : _ = [_, _, _, _, _, _, _, _, _, _, _, _, _, _, _, _, _, _, _, _, _, _, _, _, _, _, _, _, _, _, _, _, _, _, _, _, _, _, _, _, _, _, _, _, _, _, _, _, _, _, _, _, _, _, _, _, _, _, _, _, _, _, _, _, _, _, _, _, _, _, _, _, _, _, _, _, _, _, _, _, _, _, _, _, _, _]) ?_
          have hs81 := hc80.size
          replace hb36 := hb36.chg hc80 (by omega)
          replace hS30 := hS30.chg hc80 (by omega)
          replace hd53 := hd53.chg hc80 (by omega)
          replace hd69 := hd69.chg hc80 (by omega)
          refine s_val (v := v77) rfl (r_assign rfl) (rfl : _ = [_, _, _, _, _, _, _, _, _, _, _, _, _, _, _, _, _, _, _, _, _, _, _, _, _, _, _, _, _, _, _, _, _, _, _, _, _, _, _, _, _, _, _, _, _, _, _, _, _, _, _, _, _, _, _, _, _, _, _, _, _, _, _, _, _, _, _, _, _, _, _, _, _, _, _, _, _, _, _, _, _, _, _, _, _, _]) ?_
          refine s_nil rfl ?_
          refine x_block ?_
          refine x_seq ?_
          refine c_region ?_
          refine s_val (v := (.int .i64 (j : Int))) rfl (r_move rfl) (rfl : _ = [_, _, _, _, _, _, _, _, _, _, _, _, _, _, _, _, _, _, _, _, _, _, _, _, _, _, _, _, _, _, _, _, _, _, _, _, _, _, _, _, _, _, _, _, _, _, _, _, _, _, _, _, _, _, _, _, _, _, _, _, _, _, _, _, _, _, _, _, _, _, _, _, _, _, _, _, _, _, _, _, _, _, _, _, _, _]) ?_
          refine s_val (v := (.int .i64 ((j : Int) + 1))) rfl (r_add (c := (j : Int) + 1) rfl rfl (i64_in (by omega) (by omega))) (rfl : _ = [_, _, _, _, _, _, _, _, _, _, _, _, _, _, _, _, _, _, _, _, _, _, _, _, _, _, _, _, _, _, _, _, _, _, _, _, _, _, _, _, _, _, _, _, _, _, _, _, _, _, _, _, _, _, _, _, _, _, _, _, _, _, _, _, _, _, _, _, _, _, _, _, _, _, _, _, _, _, _, _, _, _, _, _, _, _]) ?_
          refine s_val (v := (.int .i64 ((j : Int) + 1))) rfl (r_assign rfl) (rfl : _ = [_, _, _, _, _, _, _, _, _, _, _, _, _, _, _, _, _, _, _, _, _, _, _, _, _, _, _, _, _, _, _, _, _, _, _, _, _, _, _, _, _, _, _, _, _, _, _, _, _, _, _, _, _, _, _, _, _, _, _, _, _, _, _, _, _, _, _, _, _, _, _, _, _, _, _, _, _, _, _, _, _, _, _, _, _, _]) ?_
          refine s_nil rfl ?_
          refine x_then ?_
          have hf2 : (l.take (j + 1)).filter (fun e => !hasV v e.dot) = (l.take j).filter (fun e => !hasV v e.dot) ++ [e43] := by rw [take_snoc he47, List.filter_append, List.filter_cons]; simp [*]
          refine ⟨_, _, ?_, rfl, (j + 1), v77, w78.heap.size, (fun n_ => ([jk35 0, jk35 1, jk35 2, jk35 3, jk35 4, jk35 5, jk35 6, jk35 7, jk35 8, jk35 9, jk35 10, jk35 11, jk35 12, jk35 13, jk35 14, jk35 15, jk35 16, jk35 17, jk35 18, jk35 19, jk35 20, jk35 21, jk35 22, jk35 23, .int .i64 (j : Int), u, .int .i64 (l.length : Int), .bool true, .int .i64 (j : Int), .int .i64 ((j : Int) + 1), u2, u, .int .i64 (j : Int), .pointer (some ⟨a44, o45, none⟩), .pointer (some ⟨a44, o45 + 0, none⟩), .agg #[.int .i64 e43.dot.o, .int .i64 e43.dot.s], .bool false, .bool true, out, u, .int .i64 (j : Int), .pointer (some ⟨a60, o61, none⟩), .agg #[.int .i64 e43.dot.o, .int .i64 e43.dot.s, d68, .string e43.cart, .int .i64 e43.epoch, .string e43.sku, .int .i64 e43.qty, .bool e43.clears], .slice (some ⟨a70, 0, none⟩) 1 1, v77] : List Value).getD n_ undef), rfl, rfl, (by omega), hb36, (by omega), (by rw [hf2]; simpa using hO79), hS30⟩
          omega
      | false =>
        replace hb42 := bf hb42
        refine c_cond rfl (fun hh => by cases hh) (fun _ => ?_)
        refine c_exit ?_
        refine x_then_exit ?_
        refine x_then_exit ?_
        refine x_block_same ?_
        rw [show j = l.length from by omega, List.take_length] at hO
        refine x_seq ?_
        refine c_seq ?_
        refine c_region ?_
        refine s_val (v := u) rfl (r_move rfl) (rfl : _ = [_, _, _, _, _, _, _, _, _, _, _, _, _, _, _, _, _, _, _, _, _, _, _, _, _, _, _, _, _, _, _, _, _, _, _, _, _, _, _, _, _, _, _, _, _, _, _, _, _, _, _, _, _, _, _, _, _, _, _, _, _, _, _, _, _, _, _, _, _, _, _, _, _, _, _, _, _, _, _, _, _, _, _, _, _, _]) ?_
        refine s_val (v := (.string name)) rfl (r_move rfl) (rfl : _ = [_, _, _, _, _, _, _, _, _, _, _, _, _, _, _, _, _, _, _, _, _, _, _, _, _, _, _, _, _, _, _, _, _, _, _, _, _, _, _, _, _, _, _, _, _, _, _, _, _, _, _, _, _, _, _, _, _, _, _, _, _, _, _, _, _, _, _, _, _, _, _, _, _, _, _, _, _, _, _, _, _, _, _, _, _, _]) ?_
        refine s_call 23 _ _ (by kernel_rfl) rfl rfl (lines_c (hS.at_ hb36) name (ok_of (by assumption) hw)) ?_
        rintro v82 w83 ⟨hS84, hb85⟩
        refine norm (rfl : _ = [_, _, _, _, _, _, _, _, _, _, _, _, _, _, _, _, _, _, _, _, _, _, _, _, _, _, _, _, _, _, _, _, _, _, _, _, _, _, _, _, _, _, _, _, _, _, _, _, _, _, _, _, _, _, _, _, _, _, _, _, _, _, _, _, _, _, _, _, _, _, _, _, _, _, _, _, _, _, _, _, _, _, _, _, _, _]) ?_
        have hc86 := Chg.of_bel hb85
        have hs87 := hc86.size
        replace hb36 := hb36.chg hc86 (by omega)
        replace hO := hO.chg hc86 (by omega)
        replace hS30 := hS30.chg hc86 (by omega)
        refine s_val (v := (.string sku)) rfl (r_move rfl) (rfl : _ = [_, _, _, _, _, _, _, _, _, _, _, _, _, _, _, _, _, _, _, _, _, _, _, _, _, _, _, _, _, _, _, _, _, _, _, _, _, _, _, _, _, _, _, _, _, _, _, _, _, _, _, _, _, _, _, _, _, _, _, _, _, _, _, _, _, _, _, _, _, _, _, _, _, _, _, _, _, _, _, _, _, _, _, _, _, _]) ?_
        refine s_call 22 _ _ (by kernel_rfl) rfl rfl (ofq_c hS84 sku) ?_
        rintro _ w88 ⟨rfl, hb89⟩
        refine norm (rfl : _ = [_, _, _, _, _, _, _, _, _, _, _, _, _, _, _, _, _, _, _, _, _, _, _, _, _, _, _, _, _, _, _, _, _, _, _, _, _, _, _, _, _, _, _, _, _, _, _, _, _, _, _, _, _, _, _, _, _, _, _, _, _, _, _, _, _, _, _, _, _, _, _, _, _, _, _, _, _, _, _, _, _, _, _, _, _, _]) ?_
        have hc90 := Chg.of_bel hb89
        have hs91 := hc90.size
        replace hb36 := hb36.chg hc90 (by omega)
        replace hO := hO.chg hc90 (by omega)
        replace hS30 := hS30.chg hc90 (by omega)
        replace hS84 := hS84.chg hc90 (by omega)
        have hqb := qty_bound (ok_of (by assumption) hw) name sku
        refine s_val (v := v28) rfl (r_move rfl) (rfl : _ = [_, _, _, _, _, _, _, _, _, _, _, _, _, _, _, _, _, _, _, _, _, _, _, _, _, _, _, _, _, _, _, _, _, _, _, _, _, _, _, _, _, _, _, _, _, _, _, _, _, _, _, _, _, _, _, _, _, _, _, _, _, _, _, _, _, _, _, _, _, _, _, _, _, _, _, _, _, _, _, _, _, _, _, _, _, _]) ?_
        refine s_val (v := (.string name)) rfl (r_move rfl) (rfl : _ = [_, _, _, _, _, _, _, _, _, _, _, _, _, _, _, _, _, _, _, _, _, _, _, _, _, _, _, _, _, _, _, _, _, _, _, _, _, _, _, _, _, _, _, _, _, _, _, _, _, _, _, _, _, _, _, _, _, _, _, _, _, _, _, _, _, _, _, _, _, _, _, _, _, _, _, _, _, _, _, _, _, _, _, _, _, _]) ?_
        refine s_call 23 _ _ (by kernel_rfl) rfl rfl (lines_c hS30 name (ok_filter (ok_of (by assumption) hw) (fun e => hasV v e.dot))) ?_
        rintro v92 w93 ⟨hS94, hb95⟩
        refine norm (rfl : _ = [_, _, _, _, _, _, _, _, _, _, _, _, _, _, _, _, _, _, _, _, _, _, _, _, _, _, _, _, _, _, _, _, _, _, _, _, _, _, _, _, _, _, _, _, _, _, _, _, _, _, _, _, _, _, _, _, _, _, _, _, _, _, _, _, _, _, _, _, _, _, _, _, _, _, _, _, _, _, _, _, _, _, _, _, _, _]) ?_
        have hc96 := Chg.of_bel hb95
        have hs97 := hc96.size
        replace hb36 := hb36.chg hc96 (by omega)
        replace hO := hO.chg hc96 (by omega)
        replace hS30 := hS30.chg hc96 (by omega)
        replace hS84 := hS84.chg hc96 (by omega)
        refine s_val (v := (.string sku)) rfl (r_move rfl) (rfl : _ = [_, _, _, _, _, _, _, _, _, _, _, _, _, _, _, _, _, _, _, _, _, _, _, _, _, _, _, _, _, _, _, _, _, _, _, _, _, _, _, _, _, _, _, _, _, _, _, _, _, _, _, _, _, _, _, _, _, _, _, _, _, _, _, _, _, _, _, _, _, _, _, _, _, _, _, _, _, _, _, _, _, _, _, _, _, _]) ?_
        refine s_call 22 _ _ (by kernel_rfl) rfl rfl (ofq_c hS94 sku) ?_
        rintro _ w98 ⟨rfl, hb99⟩
        refine norm (rfl : _ = [_, _, _, _, _, _, _, _, _, _, _, _, _, _, _, _, _, _, _, _, _, _, _, _, _, _, _, _, _, _, _, _, _, _, _, _, _, _, _, _, _, _, _, _, _, _, _, _, _, _, _, _, _, _, _, _, _, _, _, _, _, _, _, _, _, _, _, _, _, _, _, _, _, _, _, _, _, _, _, _, _, _, _, _, _, _]) ?_
        have hc100 := Chg.of_bel hb99
        have hs101 := hc100.size
        replace hb36 := hb36.chg hc100 (by omega)
        replace hO := hO.chg hc100 (by omega)
        replace hS30 := hS30.chg hc100 (by omega)
        replace hS84 := hS84.chg hc100 (by omega)
        replace hS94 := hS94.chg hc100 (by omega)
        have hqb := qty_bound (ok_filter (ok_of (by assumption) hw) (fun e => hasV v e.dot)) name sku
        have hfl := Nat.le_trans (List.length_filter_le (fun e : Ev => hasV v e.dot) l) (by omega : l.length ≤ 1048576)
        refine s_val (v := out) rfl (r_move rfl) (rfl : _ = [_, _, _, _, _, _, _, _, _, _, _, _, _, _, _, _, _, _, _, _, _, _, _, _, _, _, _, _, _, _, _, _, _, _, _, _, _, _, _, _, _, _, _, _, _, _, _, _, _, _, _, _, _, _, _, _, _, _, _, _, _, _, _, _, _, _, _, _, _, _, _, _, _, _, _, _, _, _, _, _, _, _, _, _, _, _]) ?_
        refine s_val (v := (.string name)) rfl (r_move rfl) (rfl : _ = [_, _, _, _, _, _, _, _, _, _, _, _, _, _, _, _, _, _, _, _, _, _, _, _, _, _, _, _, _, _, _, _, _, _, _, _, _, _, _, _, _, _, _, _, _, _, _, _, _, _, _, _, _, _, _, _, _, _, _, _, _, _, _, _, _, _, _, _, _, _, _, _, _, _, _, _, _, _, _, _, _, _, _, _, _, _]) ?_
        refine s_call 23 _ _ (by kernel_rfl) rfl rfl (lines_c hO.sl name (ok_filter (ok_of (by assumption) hw) (fun e => !hasV v e.dot))) ?_
        rintro v102 w103 ⟨hS104, hb105⟩
        refine norm (rfl : _ = [_, _, _, _, _, _, _, _, _, _, _, _, _, _, _, _, _, _, _, _, _, _, _, _, _, _, _, _, _, _, _, _, _, _, _, _, _, _, _, _, _, _, _, _, _, _, _, _, _, _, _, _, _, _, _, _, _, _, _, _, _, _, _, _, _, _, _, _, _, _, _, _, _, _, _, _, _, _, _, _, _, _, _, _, _, _]) ?_
        have hc106 := Chg.of_bel hb105
        have hs107 := hc106.size
        replace hb36 := hb36.chg hc106 (by omega)
        replace hO := hO.chg hc106 (by omega)
        replace hS30 := hS30.chg hc106 (by omega)
        replace hS84 := hS84.chg hc106 (by omega)
        replace hS94 := hS94.chg hc106 (by omega)
        refine s_val (v := (.string sku)) rfl (r_move rfl) (rfl : _ = [_, _, _, _, _, _, _, _, _, _, _, _, _, _, _, _, _, _, _, _, _, _, _, _, _, _, _, _, _, _, _, _, _, _, _, _, _, _, _, _, _, _, _, _, _, _, _, _, _, _, _, _, _, _, _, _, _, _, _, _, _, _, _, _, _, _, _, _, _, _, _, _, _, _, _, _, _, _, _, _, _, _, _, _, _, _]) ?_
        refine s_call 22 _ _ (by kernel_rfl) rfl rfl (ofq_c hS104 sku) ?_
        rintro _ w108 ⟨rfl, hb109⟩
        refine norm (rfl : _ = [_, _, _, _, _, _, _, _, _, _, _, _, _, _, _, _, _, _, _, _, _, _, _, _, _, _, _, _, _, _, _, _, _, _, _, _, _, _, _, _, _, _, _, _, _, _, _, _, _, _, _, _, _, _, _, _, _, _, _, _, _, _, _, _, _, _, _, _, _, _, _, _, _, _, _, _, _, _, _, _, _, _, _, _, _, _]) ?_
        have hc110 := Chg.of_bel hb109
        have hs111 := hc110.size
        replace hb36 := hb36.chg hc110 (by omega)
        replace hO := hO.chg hc110 (by omega)
        replace hS30 := hS30.chg hc110 (by omega)
        replace hS84 := hS84.chg hc110 (by omega)
        replace hS94 := hS94.chg hc110 (by omega)
        replace hS104 := hS104.chg hc110 (by omega)
        have hqb := qty_bound (ok_filter (ok_of (by assumption) hw) (fun e => !hasV v e.dot)) name sku
        have hfl := Nat.le_trans (List.length_filter_le (fun e : Ev => !hasV v e.dot) l) (by omega : l.length ≤ 1048576)
        refine s_val (v := (.int .i64 ((qtyL (linesL (l.filter fun e => hasV v e.dot) name) sku) + (qtyL (linesL (l.filter fun e => !hasV v e.dot) name) sku)))) rfl (r_add (c := (qtyL (linesL (l.filter fun e => hasV v e.dot) name) sku) + (qtyL (linesL (l.filter fun e => !hasV v e.dot) name) sku)) rfl rfl (i64_in (by omega) (by omega))) (rfl : _ = [_, _, _, _, _, _, _, _, _, _, _, _, _, _, _, _, _, _, _, _, _, _, _, _, _, _, _, _, _, _, _, _, _, _, _, _, _, _, _, _, _, _, _, _, _, _, _, _, _, _, _, _, _, _, _, _, _, _, _, _, _, _, _, _, _, _, _, _, _, _, _, _, _, _, _, _, _, _, _, _, _, _, _, _, _, _]) ?_
        refine s_bool (p := ((qtyL (linesL l name) sku) = ((qtyL (linesL (l.filter fun e => hasV v e.dot) name) sku) + (qtyL (linesL (l.filter fun e => !hasV v e.dot) name) sku)) : Prop)) rfl (r_eqi rfl rfl) eqi_iff ?_
        intro b112 hb112
        refine norm (rfl : _ = [_, _, _, _, _, _, _, _, _, _, _, _, _, _, _, _, _, _, _, _, _, _, _, _, _, _, _, _, _, _, _, _, _, _, _, _, _, _, _, _, _, _, _, _, _, _, _, _, _, _, _, _, _, _, _, _, _, _, _, _, _, _, _, _, _, _, _, _, _, _, _, _, _, _, _, _, _, _, _, _, _, _, _, _, _, _]) ?_
        refine s_val (v := (.bool b112)) rfl (r_move rfl) (rfl : _ = [_, _, _, _, _, _, _, _, _, _, _, _, _, _, _, _, _, _, _, _, _, _, _, _, _, _, _, _, _, _, _, _, _, _, _, _, _, _, _, _, _, _, _, _, _, _, _, _, _, _, _, _, _, _, _, _, _, _, _, _, _, _, _, _, _, _, _, _, _, _, _, _, _, _, _, _, _, _, _, _, _, _, _, _, _, _]) ?_
        cases b112 with
        | true =>
          replace hb112 := bt hb112
          refine s_val (v := u) (wan_t (dj := 70) rfl rfl) (r_move rfl) (rfl : _ = [_, _, _, _, _, _, _, _, _, _, _, _, _, _, _, _, _, _, _, _, _, _, _, _, _, _, _, _, _, _, _, _, _, _, _, _, _, _, _, _, _, _, _, _, _, _, _, _, _, _, _, _, _, _, _, _, _, _, _, _, _, _, _, _, _, _, _, _, _, _, _, _, _, _, _, _, _, _, _, _, _, _, _, _, _, _]) ?_
          refine s_val (v := (.string name)) (wan_t (dj := 70) rfl rfl) (r_move rfl) (rfl : _ = [_, _, _, _, _, _, _, _, _, _, _, _, _, _, _, _, _, _, _, _, _, _, _, _, _, _, _, _, _, _, _, _, _, _, _, _, _, _, _, _, _, _, _, _, _, _, _, _, _, _, _, _, _, _, _, _, _, _, _, _, _, _, _, _, _, _, _, _, _, _, _, _, _, _, _, _, _, _, _, _, _, _, _, _, _, _]) ?_
          refine s_call 23 _ _ (by kernel_rfl) (wan_t (dj := 70) rfl rfl) rfl (lines_c (hS.at_ hb36) name (ok_of (by assumption) hw)) ?_
          rintro v113 w114 ⟨hS115, hb116⟩
          refine norm (rfl : _ = [_, _, _, _, _, _, _, _, _, _, _, _, _, _, _, _, _, _, _, _, _, _, _, _, _, _, _, _, _, _, _, _, _, _, _, _, _, _, _, _, _, _, _, _, _, _, _, _, _, _, _, _, _, _, _, _, _, _, _, _, _, _, _, _, _, _, _, _, _, _, _, _, _, _, _, _, _, _, _, _, _, _, _, _, _, _]) ?_
          have hc117 := Chg.of_bel hb116
          have hs118 := hc117.size
          replace hb36 := hb36.chg hc117 (by omega)
          replace hO := hO.chg hc117 (by omega)
          replace hS30 := hS30.chg hc117 (by omega)
          replace hS84 := hS84.chg hc117 (by omega)
          replace hS94 := hS94.chg hc117 (by omega)
          replace hS104 := hS104.chg hc117 (by omega)
          refine s_call 26 _ _ (by kernel_rfl) (wan_t (dj := 70) rfl rfl) rfl (total_c hS115 (tot_ok (ok_of (by assumption) hw) (by omega) name) (totn_ok (by omega) name)) ?_
          rintro _ w119 ⟨rfl, hb120⟩
          refine norm (rfl : _ = [_, _, _, _, _, _, _, _, _, _, _, _, _, _, _, _, _, _, _, _, _, _, _, _, _, _, _, _, _, _, _, _, _, _, _, _, _, _, _, _, _, _, _, _, _, _, _, _, _, _, _, _, _, _, _, _, _, _, _, _, _, _, _, _, _, _, _, _, _, _, _, _, _, _, _, _, _, _, _, _, _, _, _, _, _, _]) ?_
          have hc121 := Chg.of_bel hb120
          have hs122 := hc121.size
          replace hb36 := hb36.chg hc121 (by omega)
          replace hO := hO.chg hc121 (by omega)
          replace hS30 := hS30.chg hc121 (by omega)
          replace hS84 := hS84.chg hc121 (by omega)
          replace hS94 := hS94.chg hc121 (by omega)
          replace hS104 := hS104.chg hc121 (by omega)
          replace hS115 := hS115.chg hc121 (by omega)
          have htb := tot_bound (ok_of (by assumption) hw) name
          refine s_val (v := v28) (wan_t (dj := 70) rfl rfl) (r_move rfl) (rfl : _ = [_, _, _, _, _, _, _, _, _, _, _, _, _, _, _, _, _, _, _, _, _, _, _, _, _, _, _, _, _, _, _, _, _, _, _, _, _, _, _, _, _, _, _, _, _, _, _, _, _, _, _, _, _, _, _, _, _, _, _, _, _, _, _, _, _, _, _, _, _, _, _, _, _, _, _, _, _, _, _, _, _, _, _, _, _, _]) ?_
          refine s_val (v := (.string name)) (wan_t (dj := 70) rfl rfl) (r_move rfl) (rfl : _ = [_, _, _, _, _, _, _, _, _, _, _, _, _, _, _, _, _, _, _, _, _, _, _, _, _, _, _, _, _, _, _, _, _, _, _, _, _, _, _, _, _, _, _, _, _, _, _, _, _, _, _, _, _, _, _, _, _, _, _, _, _, _, _, _, _, _, _, _, _, _, _, _, _, _, _, _, _, _, _, _, _, _, _, _, _, _]) ?_
          refine s_call 23 _ _ (by kernel_rfl) (wan_t (dj := 70) rfl rfl) rfl (lines_c hS30 name (ok_filter (ok_of (by assumption) hw) (fun e => hasV v e.dot))) ?_
          rintro v123 w124 ⟨hS125, hb126⟩
          refine norm (rfl : _ = [_, _, _, _, _, _, _, _, _, _, _, _, _, _, _, _, _, _, _, _, _, _, _, _, _, _, _, _, _, _, _, _, _, _, _, _, _, _, _, _, _, _, _, _, _, _, _, _, _, _, _, _, _, _, _, _, _, _, _, _, _, _, _, _, _, _, _, _, _, _, _, _, _, _, _, _, _, _, _, _, _, _, _, _, _, _]) ?_
          have hc127 := Chg.of_bel hb126
          have hs128 := hc127.size
          replace hb36 := hb36.chg hc127 (by omega)
          replace hO := hO.chg hc127 (by omega)
          replace hS30 := hS30.chg hc127 (by omega)
          replace hS84 := hS84.chg hc127 (by omega)
          replace hS94 := hS94.chg hc127 (by omega)
          replace hS104 := hS104.chg hc127 (by omega)
          replace hS115 := hS115.chg hc127 (by omega)
          refine s_call 26 _ _ (by kernel_rfl) (wan_t (dj := 70) rfl rfl) rfl (total_c hS125 (tot_ok (ok_filter (ok_of (by assumption) hw) (fun e => hasV v e.dot)) (Nat.le_trans (List.length_filter_le _ _) (by omega)) name) (totn_ok (Nat.le_trans (List.length_filter_le _ _) (by omega)) name)) ?_
          rintro _ w129 ⟨rfl, hb130⟩
          refine norm (rfl : _ = [_, _, _, _, _, _, _, _, _, _, _, _, _, _, _, _, _, _, _, _, _, _, _, _, _, _, _, _, _, _, _, _, _, _, _, _, _, _, _, _, _, _, _, _, _, _, _, _, _, _, _, _, _, _, _, _, _, _, _, _, _, _, _, _, _, _, _, _, _, _, _, _, _, _, _, _, _, _, _, _, _, _, _, _, _, _]) ?_
          have hc131 := Chg.of_bel hb130
          have hs132 := hc131.size
          replace hb36 := hb36.chg hc131 (by omega)
          replace hO := hO.chg hc131 (by omega)
          replace hS30 := hS30.chg hc131 (by omega)
          replace hS84 := hS84.chg hc131 (by omega)
          replace hS94 := hS94.chg hc131 (by omega)
          replace hS104 := hS104.chg hc131 (by omega)
          replace hS115 := hS115.chg hc131 (by omega)
          replace hS125 := hS125.chg hc131 (by omega)
          have htb := tot_bound (ok_filter (ok_of (by assumption) hw) (fun e => hasV v e.dot)) name
          refine s_val (v := out) (wan_t (dj := 70) rfl rfl) (r_move rfl) (rfl : _ = [_, _, _, _, _, _, _, _, _, _, _, _, _, _, _, _, _, _, _, _, _, _, _, _, _, _, _, _, _, _, _, _, _, _, _, _, _, _, _, _, _, _, _, _, _, _, _, _, _, _, _, _, _, _, _, _, _, _, _, _, _, _, _, _, _, _, _, _, _, _, _, _, _, _, _, _, _, _, _, _, _, _, _, _, _, _]) ?_
          refine s_val (v := (.string name)) (wan_t (dj := 70) rfl rfl) (r_move rfl) (rfl : _ = [_, _, _, _, _, _, _, _, _, _, _, _, _, _, _, _, _, _, _, _, _, _, _, _, _, _, _, _, _, _, _, _, _, _, _, _, _, _, _, _, _, _, _, _, _, _, _, _, _, _, _, _, _, _, _, _, _, _, _, _, _, _, _, _, _, _, _, _, _, _, _, _, _, _, _, _, _, _, _, _, _, _, _, _, _, _]) ?_
          refine s_call 23 _ _ (by kernel_rfl) (wan_t (dj := 70) rfl rfl) rfl (lines_c hO.sl name (ok_filter (ok_of (by assumption) hw) (fun e => !hasV v e.dot))) ?_
          rintro v133 w134 ⟨hS135, hb136⟩
          refine norm (rfl : _ = [_, _, _, _, _, _, _, _, _, _, _, _, _, _, _, _, _, _, _, _, _, _, _, _, _, _, _, _, _, _, _, _, _, _, _, _, _, _, _, _, _, _, _, _, _, _, _, _, _, _, _, _, _, _, _, _, _, _, _, _, _, _, _, _, _, _, _, _, _, _, _, _, _, _, _, _, _, _, _, _, _, _, _, _, _, _]) ?_
          have hc137 := Chg.of_bel hb136
          have hs138 := hc137.size
          replace hb36 := hb36.chg hc137 (by omega)
          replace hO := hO.chg hc137 (by omega)
          replace hS30 := hS30.chg hc137 (by omega)
          replace hS84 := hS84.chg hc137 (by omega)
          replace hS94 := hS94.chg hc137 (by omega)
          replace hS104 := hS104.chg hc137 (by omega)
          replace hS115 := hS115.chg hc137 (by omega)
          replace hS125 := hS125.chg hc137 (by omega)
          refine s_call 26 _ _ (by kernel_rfl) (wan_t (dj := 70) rfl rfl) rfl (total_c hS135 (tot_ok (ok_filter (ok_of (by assumption) hw) (fun e => !hasV v e.dot)) (Nat.le_trans (List.length_filter_le _ _) (by omega)) name) (totn_ok (Nat.le_trans (List.length_filter_le _ _) (by omega)) name)) ?_
          rintro _ w139 ⟨rfl, hb140⟩
          refine norm (rfl : _ = [_, _, _, _, _, _, _, _, _, _, _, _, _, _, _, _, _, _, _, _, _, _, _, _, _, _, _, _, _, _, _, _, _, _, _, _, _, _, _, _, _, _, _, _, _, _, _, _, _, _, _, _, _, _, _, _, _, _, _, _, _, _, _, _, _, _, _, _, _, _, _, _, _, _, _, _, _, _, _, _, _, _, _, _, _, _]) ?_
          have hc141 := Chg.of_bel hb140
          have hs142 := hc141.size
          replace hb36 := hb36.chg hc141 (by omega)
          replace hO := hO.chg hc141 (by omega)
          replace hS30 := hS30.chg hc141 (by omega)
          replace hS84 := hS84.chg hc141 (by omega)
          replace hS94 := hS94.chg hc141 (by omega)
          replace hS104 := hS104.chg hc141 (by omega)
          replace hS115 := hS115.chg hc141 (by omega)
          replace hS125 := hS125.chg hc141 (by omega)
          replace hS135 := hS135.chg hc141 (by omega)
          have htb := tot_bound (ok_filter (ok_of (by assumption) hw) (fun e => !hasV v e.dot)) name
          refine s_val (v := (.int .i64 ((totL (linesL (l.filter fun e => hasV v e.dot) name)) + (totL (linesL (l.filter fun e => !hasV v e.dot) name))))) (wan_t (dj := 70) rfl rfl) (r_add (c := (totL (linesL (l.filter fun e => hasV v e.dot) name)) + (totL (linesL (l.filter fun e => !hasV v e.dot) name))) rfl rfl (i64_in (by omega) (by omega))) (rfl : _ = [_, _, _, _, _, _, _, _, _, _, _, _, _, _, _, _, _, _, _, _, _, _, _, _, _, _, _, _, _, _, _, _, _, _, _, _, _, _, _, _, _, _, _, _, _, _, _, _, _, _, _, _, _, _, _, _, _, _, _, _, _, _, _, _, _, _, _, _, _, _, _, _, _, _, _, _, _, _, _, _, _, _, _, _, _, _]) ?_
          refine s_bool (p := ((totL (linesL l name)) = ((totL (linesL (l.filter fun e => hasV v e.dot) name)) + (totL (linesL (l.filter fun e => !hasV v e.dot) name))) : Prop)) (wan_t (dj := 70) rfl rfl) (r_eqi rfl rfl) eqi_iff ?_
          intro b143 hb143
          refine norm (rfl : _ = [_, _, _, _, _, _, _, _, _, _, _, _, _, _, _, _, _, _, _, _, _, _, _, _, _, _, _, _, _, _, _, _, _, _, _, _, _, _, _, _, _, _, _, _, _, _, _, _, _, _, _, _, _, _, _, _, _, _, _, _, _, _, _, _, _, _, _, _, _, _, _, _, _, _, _, _, _, _, _, _, _, _, _, _, _, _]) ?_
          refine s_val (v := (.bool b143)) rfl (r_pick rfl rfl) (rfl : _ = [_, _, _, _, _, _, _, _, _, _, _, _, _, _, _, _, _, _, _, _, _, _, _, _, _, _, _, _, _, _, _, _, _, _, _, _, _, _, _, _, _, _, _, _, _, _, _, _, _, _, _, _, _, _, _, _, _, _, _, _, _, _, _, _, _, _, _, _, _, _, _, _, _, _, _, _, _, _, _, _, _, _, _, _, _, _]) ?_
          refine s_val (v := (.bool b143)) rfl (r_assign rfl) (rfl : _ = [_, _, _, _, _, _, _, _, _, _, _, _, _, _, _, _, _, _, _, _, _, _, _, _, _, _, _, _, _, _, _, _, _, _, _, _, _, _, _, _, _, _, _, _, _, _, _, _, _, _, _, _, _, _, _, _, _, _, _, _, _, _, _, _, _, _, _, _, _, _, _, _, _, _, _, _, _, _, _, _, _, _, _, _, _, _]) ?_
          refine s_nil rfl ?_
          refine x_seq ?_
          refine c_ret ?_
          refine post_ret rfl rfl ?_
          cases b143 with
          | true =>
            replace hb143 := bt hb143
            exact ⟨rfl, hb36⟩
          | false =>
            replace hb143 := bf hb143
            first | exact absurd (qty_parts (fun e he => ((ok_of (by assumption) hw) e he).1) hncl (fun d => hasV v d) name sku) hb143 | exact absurd (tot_parts (fun e he => ((ok_of (by assumption) hw) e he).1) hncl (fun d => hasV v d) name) hb143
        | false =>
          replace hb112 := bf hb112
          refine s_skip (wan_f (dj := 70) rfl rfl rfl) (rfl : _ = [_, _, _, _, _, _, _, _, _, _, _, _, _, _, _, _, _, _, _, _, _, _, _, _, _, _, _, _, _, _, _, _, _, _, _, _, _, _, _, _, _, _, _, _, _, _, _, _, _, _, _, _, _, _, _, _, _, _, _, _, _, _, _, _, _, _, _, _, _, _, _, _, _, _, _, _, _, _, _, _, _, _, _, _, _, _]) ?_
          refine s_skip (wan_f (dj := 70) rfl rfl rfl) (rfl : _ = [_, _, _, _, _, _, _, _, _, _, _, _, _, _, _, _, _, _, _, _, _, _, _, _, _, _, _, _, _, _, _, _, _, _, _, _, _, _, _, _, _, _, _, _, _, _, _, _, _, _, _, _, _, _, _, _, _, _, _, _, _, _, _, _, _, _, _, _, _, _, _, _, _, _, _, _, _, _, _, _, _, _, _, _, _, _]) ?_
          refine s_skip (wan_f (dj := 70) rfl rfl rfl) (rfl : _ = [_, _, _, _, _, _, _, _, _, _, _, _, _, _, _, _, _, _, _, _, _, _, _, _, _, _, _, _, _, _, _, _, _, _, _, _, _, _, _, _, _, _, _, _, _, _, _, _, _, _, _, _, _, _, _, _, _, _, _, _, _, _, _, _, _, _, _, _, _, _, _, _, _, _, _, _, _, _, _, _, _, _, _, _, _, _]) ?_
          refine s_skip (wan_f (dj := 70) rfl rfl rfl) (rfl : _ = [_, _, _, _, _, _, _, _, _, _, _, _, _, _, _, _, _, _, _, _, _, _, _, _, _, _, _, _, _, _, _, _, _, _, _, _, _, _, _, _, _, _, _, _, _, _, _, _, _, _, _, _, _, _, _, _, _, _, _, _, _, _, _, _, _, _, _, _, _, _, _, _, _, _, _, _, _, _, _, _, _, _, _, _, _, _]) ?_
          refine s_skip (wan_f (dj := 70) rfl rfl rfl) (rfl : _ = [_, _, _, _, _, _, _, _, _, _, _, _, _, _, _, _, _, _, _, _, _, _, _, _, _, _, _, _, _, _, _, _, _, _, _, _, _, _, _, _, _, _, _, _, _, _, _, _, _, _, _, _, _, _, _, _, _, _, _, _, _, _, _, _, _, _, _, _, _, _, _, _, _, _, _, _, _, _, _, _, _, _, _, _, _, _]) ?_
          refine s_skip (wan_f (dj := 70) rfl rfl rfl) (rfl : _ = [_, _, _, _, _, _, _, _, _, _, _, _, _, _, _, _, _, _, _, _, _, _, _, _, _, _, _, _, _, _, _, _, _, _, _, _, _, _, _, _, _, _, _, _, _, _, _, _, _, _, _, _, _, _, _, _, _, _, _, _, _, _, _, _, _, _, _, _, _, _, _, _, _, _, _, _, _, _, _, _, _, _, _, _, _, _]) ?_
          refine s_skip (wan_f (dj := 70) rfl rfl rfl) (rfl : _ = [_, _, _, _, _, _, _, _, _, _, _, _, _, _, _, _, _, _, _, _, _, _, _, _, _, _, _, _, _, _, _, _, _, _, _, _, _, _, _, _, _, _, _, _, _, _, _, _, _, _, _, _, _, _, _, _, _, _, _, _, _, _, _, _, _, _, _, _, _, _, _, _, _, _, _, _, _, _, _, _, _, _, _, _, _, _]) ?_
          refine s_skip (wan_f (dj := 70) rfl rfl rfl) (rfl : _ = [_, _, _, _, _, _, _, _, _, _, _, _, _, _, _, _, _, _, _, _, _, _, _, _, _, _, _, _, _, _, _, _, _, _, _, _, _, _, _, _, _, _, _, _, _, _, _, _, _, _, _, _, _, _, _, _, _, _, _, _, _, _, _, _, _, _, _, _, _, _, _, _, _, _, _, _, _, _, _, _, _, _, _, _, _, _]) ?_
          refine s_skip (wan_f (dj := 70) rfl rfl rfl) (rfl : _ = [_, _, _, _, _, _, _, _, _, _, _, _, _, _, _, _, _, _, _, _, _, _, _, _, _, _, _, _, _, _, _, _, _, _, _, _, _, _, _, _, _, _, _, _, _, _, _, _, _, _, _, _, _, _, _, _, _, _, _, _, _, _, _, _, _, _, _, _, _, _, _, _, _, _, _, _, _, _, _, _, _, _, _, _, _, _]) ?_
          refine s_skip (wan_f (dj := 70) rfl rfl rfl) (rfl : _ = [_, _, _, _, _, _, _, _, _, _, _, _, _, _, _, _, _, _, _, _, _, _, _, _, _, _, _, _, _, _, _, _, _, _, _, _, _, _, _, _, _, _, _, _, _, _, _, _, _, _, _, _, _, _, _, _, _, _, _, _, _, _, _, _, _, _, _, _, _, _, _, _, _, _, _, _, _, _, _, _, _, _, _, _, _, _]) ?_
          refine s_skip (wan_f (dj := 70) rfl rfl rfl) (rfl : _ = [_, _, _, _, _, _, _, _, _, _, _, _, _, _, _, _, _, _, _, _, _, _, _, _, _, _, _, _, _, _, _, _, _, _, _, _, _, _, _, _, _, _, _, _, _, _, _, _, _, _, _, _, _, _, _, _, _, _, _, _, _, _, _, _, _, _, _, _, _, _, _, _, _, _, _, _, _, _, _, _, _, _, _, _, _, _]) ?_
          refine s_skip (wan_f (dj := 70) rfl rfl rfl) (rfl : _ = [_, _, _, _, _, _, _, _, _, _, _, _, _, _, _, _, _, _, _, _, _, _, _, _, _, _, _, _, _, _, _, _, _, _, _, _, _, _, _, _, _, _, _, _, _, _, _, _, _, _, _, _, _, _, _, _, _, _, _, _, _, _, _, _, _, _, _, _, _, _, _, _, _, _, _, _, _, _, _, _, _, _, _, _, _, _]) ?_
          refine s_skip (wan_f (dj := 70) rfl rfl rfl) (rfl : _ = [_, _, _, _, _, _, _, _, _, _, _, _, _, _, _, _, _, _, _, _, _, _, _, _, _, _, _, _, _, _, _, _, _, _, _, _, _, _, _, _, _, _, _, _, _, _, _, _, _, _, _, _, _, _, _, _, _, _, _, _, _, _, _, _, _, _, _, _, _, _, _, _, _, _, _, _, _, _, _, _, _, _, _, _, _, _]) ?_
          refine s_skip (wan_f (dj := 70) rfl rfl rfl) (rfl : _ = [_, _, _, _, _, _, _, _, _, _, _, _, _, _, _, _, _, _, _, _, _, _, _, _, _, _, _, _, _, _, _, _, _, _, _, _, _, _, _, _, _, _, _, _, _, _, _, _, _, _, _, _, _, _, _, _, _, _, _, _, _, _, _, _, _, _, _, _, _, _, _, _, _, _, _, _, _, _, _, _, _, _, _, _, _, _]) ?_
          refine s_val (v := (.bool false)) rfl (r_pick rfl rfl) (rfl : _ = [_, _, _, _, _, _, _, _, _, _, _, _, _, _, _, _, _, _, _, _, _, _, _, _, _, _, _, _, _, _, _, _, _, _, _, _, _, _, _, _, _, _, _, _, _, _, _, _, _, _, _, _, _, _, _, _, _, _, _, _, _, _, _, _, _, _, _, _, _, _, _, _, _, _, _, _, _, _, _, _, _, _, _, _, _, _]) ?_
          refine s_val (v := (.bool false)) rfl (r_assign rfl) (rfl : _ = [_, _, _, _, _, _, _, _, _, _, _, _, _, _, _, _, _, _, _, _, _, _, _, _, _, _, _, _, _, _, _, _, _, _, _, _, _, _, _, _, _, _, _, _, _, _, _, _, _, _, _, _, _, _, _, _, _, _, _, _, _, _, _, _, _, _, _, _, _, _, _, _, _, _, _, _, _, _, _, _, _, _, _, _, _, _]) ?_
          refine s_nil rfl ?_
          refine x_seq ?_
          refine c_ret ?_
          refine post_ret rfl rfl ?_
          first | exact absurd (qty_parts (fun e he => ((ok_of (by assumption) hw) e he).1) hncl (fun d => hasV v d) name sku) hb112 | exact absurd (tot_parts (fun e he => ((ok_of (by assumption) hw) e he).1) hncl (fun d => hasV v d) name) hb112
  | false =>
    replace hb5 := toB_f hb5
    refine c_cond rfl (fun _ => ?_) (fun hh => by cases hh)
    refine c_seq ?_
    refine c_region ?_
    refine s_val (v := (.bool true)) rfl (r_assign rfl) (rfl : _ = [_, _, _, _, _, _, _, _, _, _, _, _, _, _, _, _, _, _, _, _, _, _, _, _, _, _, _, _, _, _, _, _, _, _, _, _, _, _, _, _, _, _, _, _, _, _, _, _, _, _, _, _, _, _, _, _, _, _, _, _, _, _, _, _, _, _, _, _, _, _, _, _, _, _, _, _, _, _, _, _, _, _, _, _, _, _]) ?_
    refine s_nil rfl ?_
    refine x_seq ?_
    refine c_ret ?_
    refine x_then_ret ?_
    refine post_ret rfl rfl ?_
    exact ⟨rfl, hb⟩

end Go.Proofs.Ytailhdcackkegaa.Wd

/- vv.Of, vv.Has, vv.isCount: what they come to. -/
import Derived.Test.YtailhdcackkegaaEa
import Derived.Test.YtailhdcackkegaaTy
import Derived.Test.YtailhdcackkegaaProg
namespace Go.Proofs.Ytailhdcackkegaa.Wd
open Go.RowKit
set_option linter.unusedVariables false
set_option linter.unusedSimpArgs false

/-- An origin's number in a vector. -/
def ofL (xs : List Int) (o : Int) : Int := if o < 0 then 0 else xs.getD o.toNat 0
theorem ofL_out {xs : List Int} {o : Int} (h : o < 0 ∨ (xs.length : Int) ≤ o) : ofL xs o = 0 := by
  unfold ofL
  split
  · rfl
  · rw [List.getD_eq_getElem?_getD, List.getElem?_eq_none (by omega)]; rfl
theorem ofL_in {xs : List Int} {o e : Int} (h : 0 ≤ o) (he : xs[o.toNat]? = some e) : ofL xs o = e := by
  unfold ofL
  rw [if_neg (by omega), List.getD_eq_getElem?_getD, he]; rfl
/-- Has a vector a dot? -/
def hasV (xs : List Int) (d : Dot) : Bool := decide (0 < d.s) && decide (d.s ≤ ofL xs d.o)

/-- vv.Of -/
theorem of_c {ok : Nat → Prop} {w : World} {v : Value} {xs : List Int} (hS : Sl kInt ok w v xs) (o : Int) :
    CallsV Try.prog 21 #[v, (.int .i64 o)] w (fun r w' => r = .int .i64 (ofL xs o) ∧ Bel w w') := by
  have hb := Bel.refl w
  replace hS : Sl kInt (Rg w.heap.size 0 0) w v xs := hS.weak (by decide) (fun b _ hl => .inl hl)
  have hSlim := lim_le hS.lim
  refine callsV_of Try.func21 (m := 15) Try.ntmps21 rfl rfl (l := [v, .int .i64 o, undef, undef, undef, undef, undef, undef, undef, undef, undef, undef, undef, undef, undef, undef, undef]) rfl ?_
  refine c_seq ?_
  refine c_region ?_
  refine s_val (v := (.int .i64 0)) rfl (r_assign rfl) (rfl : _ = [_, _, _, _, _, _, _, _, _, _, _, _, _, _, _, _, _]) ?_
  refine s_nil rfl ?_
  refine x_seq ?_
  refine c_seq ?_
  refine c_seq ?_
  refine c_region ?_
  refine s_val (v := (.int .i64 o)) rfl (r_move rfl) (rfl : _ = [_, _, _, _, _, _, _, _, _, _, _, _, _, _, _, _, _]) ?_
  refine s_bool (p := (o < 0 : Prop)) rfl (r_lss rfl rfl) decide_eq_true_iff ?_
  intro b1 hb1
  refine norm (rfl : _ = [_, _, _, _, _, _, _, _, _, _, _, _, _, _, _, _, _]) ?_
  refine s_val (v := (.bool b1)) rfl (r_move rfl) (rfl : _ = [_, _, _, _, _, _, _, _, _, _, _, _, _, _, _, _, _]) ?_
  cases b1 with
  | true =>
    replace hb1 := bt hb1
    refine s_skip (wan_f (dj := 7) rfl rfl rfl) (rfl : _ = [_, _, _, _, _, _, _, _, _, _, _, _, _, _, _, _, _]) ?_
    refine s_skip (wan_f (dj := 7) rfl rfl rfl) (rfl : _ = [_, _, _, _, _, _, _, _, _, _, _, _, _, _, _, _, _]) ?_
    refine s_skip (wan_f (dj := 7) rfl rfl rfl) (rfl : _ = [_, _, _, _, _, _, _, _, _, _, _, _, _, _, _, _, _]) ?_
    refine s_skip (wan_f (dj := 7) rfl rfl rfl) (rfl : _ = [_, _, _, _, _, _, _, _, _, _, _, _, _, _, _, _, _]) ?_
    refine s_val (v := (.bool true)) rfl (r_pick rfl rfl) (rfl : _ = [_, _, _, _, _, _, _, _, _, _, _, _, _, _, _, _, _]) ?_
    refine s_nil rfl ?_
    refine x_seq ?_
    refine c_cond rfl (fun _ => ?_) (fun hh => by cases hh)
    refine c_seq ?_
    refine c_region ?_
    refine s_val (v := (.int .i64 0)) rfl (r_assign rfl) (rfl : _ = [_, _, _, _, _, _, _, _, _, _, _, _, _, _, _, _, _]) ?_
    refine s_nil rfl ?_
    refine x_seq ?_
    refine c_ret ?_
    refine x_then_ret ?_
    refine post_ret rfl rfl ?_
    exact ⟨int_eq (by first | (rw [ofL_out (by omega)]) | (rw [ofL_in (by omega) (by assumption)])), hb⟩
  | false =>
    replace hb1 := bf hb1
    refine s_val (v := (.int .i64 o)) (wan_t (dj := 7) rfl rfl) (r_move rfl) (rfl : _ = [_, _, _, _, _, _, _, _, _, _, _, _, _, _, _, _, _]) ?_
    refine s_val (v := v) (wan_t (dj := 7) rfl rfl) (r_move rfl) (rfl : _ = [_, _, _, _, _, _, _, _, _, _, _, _, _, _, _, _, _]) ?_
    refine s_val (v := (.int .i64 (xs.length : Int))) (wan_t (dj := 7) rfl rfl) ((hS.at_ hb).len Try.underlying23 rfl _) (rfl : _ = [_, _, _, _, _, _, _, _, _, _, _, _, _, _, _, _, _]) ?_
    refine s_bool (p := ((xs.length : Int) ≤ o : Prop)) (wan_t (dj := 7) rfl rfl) (r_geq rfl rfl) decide_eq_true_iff ?_
    intro b2 hb2
    refine norm (rfl : _ = [_, _, _, _, _, _, _, _, _, _, _, _, _, _, _, _, _]) ?_
    refine s_val (v := (.bool b2)) rfl (r_pick rfl rfl) (rfl : _ = [_, _, _, _, _, _, _, _, _, _, _, _, _, _, _, _, _]) ?_
    refine s_nil rfl ?_
    refine x_seq ?_
    cases b2 with
    | true =>
      replace hb2 := bt hb2
      refine c_cond rfl (fun _ => ?_) (fun hh => by cases hh)
      refine c_seq ?_
      refine c_region ?_
      refine s_val (v := (.int .i64 0)) rfl (r_assign rfl) (rfl : _ = [_, _, _, _, _, _, _, _, _, _, _, _, _, _, _, _, _]) ?_
      refine s_nil rfl ?_
      refine x_seq ?_
      refine c_ret ?_
      refine x_then_ret ?_
      refine post_ret rfl rfl ?_
      exact ⟨int_eq (by first | (rw [ofL_out (by omega)]) | (rw [ofL_in (by omega) (by assumption)])), hb⟩
    | false =>
      replace hb2 := bf hb2
      refine c_cond rfl (fun hh => by cases hh) (fun _ => ?_)
      refine c_skip ?_
      refine x_seq ?_
      refine c_seq ?_
      refine c_region ?_
      refine s_val (v := v) rfl (r_move rfl) (rfl : _ = [_, _, _, _, _, _, _, _, _, _, _, _, _, _, _, _, _]) ?_
      refine s_val (v := (.int .i64 o)) rfl (r_move rfl) (rfl : _ = [_, _, _, _, _, _, _, _, _, _, _, _, _, _, _, _, _]) ?_
      obtain ⟨e3, a4, o5, c6, he7, hc8, hr9, hk10, hi11⟩ := (hS.at_ hb).idx (j := o) (by first | omega | decide) (by first | omega | simp)
      obtain rfl : c6 = [.int .i64 e3] := hc8
      refine s_val rfl (hi11 _ _ _ _ _ _ _ (by kernel_rfl) rfl rfl) (rfl : _ = [_, _, _, _, _, _, _, _, _, _, _, _, _, _, _, _, _]) ?_
      refine s_val (v := (.int .i64 e3)) rfl (r_load rfl (Ld.one Try.underlying3 rfl (hr9 0 _ rfl))) (rfl : _ = [_, _, _, _, _, _, _, _, _, _, _, _, _, _, _, _, _]) ?_
      refine s_val (v := (.int .i64 e3)) rfl (r_assign rfl) (rfl : _ = [_, _, _, _, _, _, _, _, _, _, _, _, _, _, _, _, _]) ?_
      refine s_nil rfl ?_
      refine x_seq ?_
      refine c_ret ?_
      refine post_ret rfl rfl ?_
      exact ⟨int_eq (by first | (rw [ofL_out (by omega)]) | (rw [ofL_in (by omega) (by assumption)])), hb⟩

/-- vv.Has -/
theorem has_c {ok : Nat → Prop} {w : World} {v : Value} {xs : List Int} (hS : Sl kInt ok w v xs) (d : Dot) :
    CallsV Try.prog 25 #[v, (.agg #[.int .i64 d.o, .int .i64 d.s])] w (fun r w' => r = .bool (hasV xs d) ∧ Bel w w') := by
  have hb := Bel.refl w
  replace hS : Sl kInt (Rg w.heap.size 0 0) w v xs := hS.weak (by decide) (fun b _ hl => .inl hl)
  have hSlim := lim_le hS.lim
  refine callsV_of Try.func25 (m := 15) Try.ntmps25 rfl rfl (l := [v, .agg #[.int .i64 d.o, .int .i64 d.s], undef, undef, undef, undef, undef, undef, undef, undef, undef, undef, undef, undef, undef, undef, undef]) rfl ?_
  refine c_seq ?_
  refine c_region ?_
  refine s_box (v := (.agg #[.int .i64 d.o, .int .i64 d.s])) 37 _ rfl rfl ?_
  intro a1 w2 he3 hB4 hc5 hz6
  refine norm (rfl : _ = [_, _, _, _, _, _, _, _, _, _, _, _, _, _, _, _, _]) ?_
  have hs7 := hc5.size
  replace hb := hb.chg hc5 (by omega)
  refine s_val (v := (.bool false)) rfl (r_assign rfl) (rfl : _ = [_, _, _, _, _, _, _, _, _, _, _, _, _, _, _, _, _]) ?_
  refine s_nil rfl ?_
  refine x_seq ?_
  refine c_seq ?_
  refine c_draw (by kernel_rfl) (by kernel_rfl) ?_
  refine q_val (v := (.pointer (some ⟨a1, 1, none⟩))) rfl (fun w' hC => r_field (k := 1) (o := 0) (by kernel_rfl) rfl) (rfl : _ = [_, _, _, _, _, _, _, _, _, _, _, _, _, _, _, _, _]) ?_
  refine q_val (v := (.int .i64 d.s)) rfl (fun w' hC => r_load rfl (Ld.one Try.underlying3 rfl ((hB4.below hC).cell (i := 1) rfl))) (rfl : _ = [_, _, _, _, _, _, _, _, _, _, _, _, _, _, _, _, _]) ?_
  refine q_bool (p := (0 < d.s : Prop)) rfl (fun w' hC => r_gtr rfl rfl) decide_eq_true_iff ?_
  intro b8 hb8
  refine q_norm (rfl : _ = [_, _, _, _, _, _, _, _, _, _, _, _, _, _, _, _, _]) ?_
  refine q_val (v := (.bool b8)) rfl (fun w' hC => r_move rfl) (rfl : _ = [_, _, _, _, _, _, _, _, _, _, _, _, _, _, _, _, _]) ?_
  cases b8 with
  | true =>
    replace hb8 := bt hb8
    refine q_val (v := (.pointer (some ⟨a1, 1, none⟩))) (wan_t (dj := 8) rfl rfl) (fun w' hC => r_field (k := 1) (o := 0) (by kernel_rfl) rfl) (rfl : _ = [_, _, _, _, _, _, _, _, _, _, _, _, _, _, _, _, _]) ?_
    refine q_val (v := (.int .i64 d.s)) (wan_t (dj := 8) rfl rfl) (fun w' hC => r_load rfl (Ld.one Try.underlying3 rfl ((hB4.below hC).cell (i := 1) rfl))) (rfl : _ = [_, _, _, _, _, _, _, _, _, _, _, _, _, _, _, _, _]) ?_
    refine q_val (v := v) (wan_t (dj := 8) rfl rfl) (fun w' hC => r_move rfl) (rfl : _ = [_, _, _, _, _, _, _, _, _, _, _, _, _, _, _, _, _]) ?_
    refine q_val (v := (.pointer (some ⟨a1, 0, none⟩))) (wan_t (dj := 8) rfl rfl) (fun w' hC => r_field (k := 0) (o := 0) (by kernel_rfl) rfl) (rfl : _ = [_, _, _, _, _, _, _, _, _, _, _, _, _, _, _, _, _]) ?_
    refine q_val (v := (.int .i64 d.o)) (wan_t (dj := 8) rfl rfl) (fun w' hC => r_load rfl (Ld.one Try.underlying3 rfl ((hB4.below hC).cell (i := 0) rfl))) (rfl : _ = [_, _, _, _, _, _, _, _, _, _, _, _, _, _, _, _, _]) ?_
    refine q_call (by kernel_rfl) (wan_t (dj := 8) rfl rfl) rfl (fun w' hC => of_c ((hS.at_ hb).keep (Kept.all hC)) d.o) ?_
    refine q_norm (rfl : _ = [_, _, _, _, _, _, _, _, _, _, _, _, _, _, _, _, _]) ?_
    refine q_bool (p := (d.s ≤ (ofL xs d.o) : Prop)) (wan_t (dj := 8) rfl rfl) (fun w' hC => r_leq rfl rfl) decide_eq_true_iff ?_
    intro b9 hb9
    refine q_norm (rfl : _ = [_, _, _, _, _, _, _, _, _, _, _, _, _, _, _, _, _]) ?_
    refine q_val (v := (.bool b9)) rfl (fun w' hC => r_pick rfl rfl) (rfl : _ = [_, _, _, _, _, _, _, _, _, _, _, _, _, _, _, _, _]) ?_
    refine q_val (v := (.bool b9)) rfl (fun w' hC => r_assign rfl) (rfl : _ = [_, _, _, _, _, _, _, _, _, _, _, _, _, _, _, _, _]) ?_
    refine q_nil rfl ?_
    intro w10 hq11
    have hc12 := Chg.of_bel hq11
    have hs13 := hc12.size
    replace hb := hb.chg hc12 (by omega)
    replace hB4 := hB4.chg hc12 (by omega)
    refine x_seq ?_
    refine c_ret ?_
    refine post_ret rfl rfl ?_
    exact ⟨bool_eq (by rw [Bool.eq_iff_iff]; simp [hasV, *]), hb⟩
  | false =>
    replace hb8 := bf hb8
    refine q_skip (wan_f (dj := 8) rfl rfl rfl) (rfl : _ = [_, _, _, _, _, _, _, _, _, _, _, _, _, _, _, _, _]) ?_
    refine q_skip (wan_f (dj := 8) rfl rfl rfl) (rfl : _ = [_, _, _, _, _, _, _, _, _, _, _, _, _, _, _, _, _]) ?_
    refine q_skip (wan_f (dj := 8) rfl rfl rfl) (rfl : _ = [_, _, _, _, _, _, _, _, _, _, _, _, _, _, _, _, _]) ?_
    refine q_skip (wan_f (dj := 8) rfl rfl rfl) (rfl : _ = [_, _, _, _, _, _, _, _, _, _, _, _, _, _, _, _, _]) ?_
    refine q_skip (wan_f (dj := 8) rfl rfl rfl) (rfl : _ = [_, _, _, _, _, _, _, _, _, _, _, _, _, _, _, _, _]) ?_
    refine q_skip (wan_f (dj := 8) rfl rfl rfl) (rfl : _ = [_, _, _, _, _, _, _, _, _, _, _, _, _, _, _, _, _]) ?_
    refine q_skip (wan_f (dj := 8) rfl rfl rfl) (rfl : _ = [_, _, _, _, _, _, _, _, _, _, _, _, _, _, _, _, _]) ?_
    refine q_val (v := (.bool false)) rfl (fun w' hC => r_pick rfl rfl) (rfl : _ = [_, _, _, _, _, _, _, _, _, _, _, _, _, _, _, _, _]) ?_
    refine q_val (v := (.bool false)) rfl (fun w' hC => r_assign rfl) (rfl : _ = [_, _, _, _, _, _, _, _, _, _, _, _, _, _, _, _, _]) ?_
    refine q_nil rfl ?_
    intro w14 hq15
    have hc16 := Chg.of_bel hq15
    have hs17 := hc16.size
    replace hb := hb.chg hc16 (by omega)
    replace hB4 := hB4.chg hc16 (by omega)
    refine x_seq ?_
    refine c_ret ?_
    refine post_ret rfl rfl ?_
    exact ⟨bool_eq (by rw [Bool.eq_iff_iff]; simp [hasV, *]), hb⟩

end Go.Proofs.Ytailhdcackkegaa.Wd

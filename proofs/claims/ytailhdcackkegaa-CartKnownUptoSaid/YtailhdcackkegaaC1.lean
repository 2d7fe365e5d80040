/- slices.Clone of whole numbers, cart.copied. -/
import Derived.Test.YtailhdcackkegaaEa
import Derived.Test.YtailhdcackkegaaV1
import Derived.Test.YtailhdcackkegaaProg
namespace Go.Proofs.Ytailhdcackkegaa.Wd
open Go.RowKit
set_option linter.unusedVariables false
set_option linter.unusedSimpArgs false

/-- slices.Clone -/
theorem clone_c {ok : Nat → Prop} {w : World} {v : Value} {xs : List Int} (hS : Sl kInt ok w v xs) :
    CallsV Try.prog 44 #[v] w (fun r w' => Sl kInt (Rg 0 w.heap.size w'.heap.size) w' r xs ∧ Bel w w') := by
  have hb := Bel.refl w
  replace hS : Sl kInt (Rg w.heap.size 0 0) w v xs := hS.weak (by decide) (fun b _ hl => .inl hl)
  have hSlim := lim_le hS.lim
  refine callsV_of Try.func44 (m := 7) Try.ntmps44 rfl rfl (l := [v, undef, undef, undef, undef, undef, undef, undef]) rfl ?_
  refine c_seq ?_
  refine c_region ?_
  refine s_val (v := (.slice none 0 0)) rfl (r_assign rfl) (rfl : _ = [_, _, _, _, _, _, _, _]) ?_
  refine s_nil rfl ?_
  refine x_seq ?_
  refine c_seq ?_
  refine c_seq ?_
  refine c_region ?_
  refine s_val (v := v) rfl (r_move rfl) (rfl : _ = [_, _, _, _, _, _, _, _]) ?_
  refine s_boolv rfl ((hS.at_ hb).eq_nil Try.underlying23 rfl _) ?_
  intro b1 hb1
  refine norm (rfl : _ = [_, _, _, _, _, _, _, _]) ?_
  refine s_nil rfl ?_
  refine x_seq ?_
  cases b1 with
  | true =>
    refine c_cond rfl (fun _ => ?_) (fun hh => by cases hh)
    refine c_seq ?_
    refine c_region ?_
    refine s_val (v := (.slice none 0 0)) rfl (r_assign rfl) (rfl : _ = [_, _, _, _, _, _, _, _]) ?_
    refine s_nil rfl ?_
    refine x_seq ?_
    refine c_ret ?_
    refine x_then_ret ?_
    refine post_ret rfl rfl ?_
    rw [(hS.at_ hb).nil_of hb1]
    exact ⟨Sl.nil _ _ _, hb⟩
  | false =>
    refine c_cond rfl (fun hh => by cases hh) (fun _ => ?_)
    refine c_skip ?_
    refine x_seq ?_
    refine c_seq ?_
    refine c_region ?_
    refine s_buildSlice (cs := []) (e := 3) 23 0 _ rfl rfl (by kernel_rfl) ?_
    intro a2 w3 he4 hB5 hc6 hz7
    refine norm (rfl : _ = [_, _, _, _, _, _, _, _]) ?_
    have hs8 := hc6.size
    replace hb := hb.chg hc6 (by omega)
    refine s_val (v := v) rfl (r_move rfl) (rfl : _ = [_, _, _, _, _, _, _, _]) ?_
    have hO9 : OwnX kInt 3 0 a2 (a2 + 1) w3 (.slice (some ⟨a2, 0, none⟩) 0 0) [] := OwnX.of_bx (ok := (fun _ => False)) hB5 .nil rfl (by simp [lim]) (by omega) (Nat.le_refl _) (by omega) (by omega) (fun _ hb _ => hb.elim)
    obtain ⟨ad10, c11, ds12, hv13, hF14, had15⟩ := ((hS.at_ hb)).flat
    refine s_appendX kInt (z := (.int .i64 0)) (bytes := 8) (ys := xs) (ok2 := fun _ => False) Try.underlying23 (by kernel_rfl) rfl (by decide) (by decide) (by decide) rfl hO9 hv13 (hF14.any kInt_plain (fun _ => False) _) had15 (fun _ hb _ => hb.elim) (by simpa using hS.lim) ?_
    intro v16 w17 hO18 hc19
    refine norm (rfl : _ = [_, _, _, _, _, _, _, _]) ?_
    have hs20 := hc19.size
    replace hb := hb.chg hc19 (by omega)
    refine s_val (v := v16) rfl (r_assign rfl) (rfl : _ = [_, _, _, _, _, _, _, _]) ?_
    refine s_nil rfl ?_
    refine x_seq ?_
    refine c_ret ?_
    refine post_ret rfl rfl ?_
    exact ⟨(by simpa using hO18.sl.rg (by decide) (fun b _ hh => by omega)), hb⟩

/-- cart.copied -/
theorem copied_c {ok : Nat → Prop} {w : World} {e : Ev} {d : Value} (hd : Sl kInt ok w d e.deps) :
    CallsV Try.prog 92 #[(.agg #[.int .i64 e.dot.o, .int .i64 e.dot.s, d, .string e.cart, .int .i64 e.epoch, .string e.sku, .int .i64 e.qty, .bool e.clears])] w (fun r w' => (∃ d', r = .agg #[.int .i64 e.dot.o, .int .i64 e.dot.s, d', .string e.cart, .int .i64 e.epoch, .string e.sku, .int .i64 e.qty, .bool e.clears] ∧ Sl kInt (Rg 0 w.heap.size w'.heap.size) w' d' e.deps) ∧ Bel w w') := by
  have hb := Bel.refl w
  replace hd : Sl kInt (Rg w.heap.size 0 0) w d e.deps := hd.weak (by decide) (fun b _ hl => .inl hl)
  have hdlim := lim_le hd.lim
  refine callsV_of Try.func92 (m := 7) Try.ntmps92 rfl rfl (l := [.agg #[.int .i64 e.dot.o, .int .i64 e.dot.s, d, .string e.cart, .int .i64 e.epoch, .string e.sku, .int .i64 e.qty, .bool e.clears], undef, undef, undef, undef, undef, undef, undef]) rfl ?_
  refine c_seq ?_
  refine c_region ?_
  refine s_box (v := (.agg #[.int .i64 e.dot.o, .int .i64 e.dot.s, d, .string e.cart, .int .i64 e.epoch, .string e.sku, .int .i64 e.qty, .bool e.clears])) 39 _ rfl rfl ?_
  intro a1 w2 he3 hB4 hc5 hz6
  refine norm (rfl : _ = [_, _, _, _, _, _, _, _]) ?_
  have hs7 := hc5.size
  replace hb := hb.chg hc5 (by omega)
  refine s_alloc (z := (.agg #[.int .i64 0, .int .i64 0, .slice none 0 0, .string ⟨#[]⟩, .int .i64 0, .string ⟨#[]⟩, .int .i64 0, .bool false])) 39 (by kernel_rfl) rfl ?_
  intro a8 w9 he10 hB11 hc12 hz13
  refine norm (rfl : _ = [_, _, _, _, _, _, _, _]) ?_
  have hs14 := hc12.size
  replace hb := hb.chg hc12 (by omega)
  replace hB4 := hB4.chg hc12 (by omega)
  refine s_nil rfl ?_
  refine x_seq ?_
  refine c_seq ?_
  refine c_region ?_
  refine s_val (v := (.pointer (some ⟨a1, 2, none⟩))) rfl (r_field (k := 2) (o := 0) (by kernel_rfl) rfl) (rfl : _ = [_, _, _, _, _, _, _, _]) ?_
  refine s_val (v := d) rfl (r_load rfl (Ld.one Try.underlying23 rfl (hB4.cell (i := 2) rfl))) (rfl : _ = [_, _, _, _, _, _, _, _]) ?_
  refine s_call 44 _ _ (by kernel_rfl) rfl rfl (clone_c (hd.at_ hb)) ?_
  rintro v15 w16 ⟨hS17, hb18⟩
  refine norm (rfl : _ = [_, _, _, _, _, _, _, _]) ?_
  have hc19 := Chg.of_bel hb18
  have hs20 := hc19.size
  replace hb := hb.chg hc19 (by omega)
  replace hB4 := hB4.chg hc19 (by omega)
  replace hB11 := hB11.chg hc19 (by omega)
  refine s_val (v := (.pointer (some ⟨a1, 2, none⟩))) rfl (r_field (k := 2) (o := 0) (by kernel_rfl) rfl) (rfl : _ = [_, _, _, _, _, _, _, _]) ?_
  refine s_store (b := a1) (o := 2) (vs := [v15]) (cs := [.int .i64 e.dot.o, .int .i64 e.dot.s, d, .string e.cart, .int .i64 e.epoch, .string e.sku, .int .i64 e.qty, .bool e.clears]) (cs' := [.int .i64 e.dot.o, .int .i64 e.dot.s, v15, .string e.cart, .int .i64 e.epoch, .string e.sku, .int .i64 e.qty, .bool e.clears]) 23 _ _ rfl (v := v15) rfl rfl hS17.cells hB4 (by kernel_rfl) ⟨hS17.one, trivial⟩ (by simp) rfl ?_
  intro w21 hB22 hc23 hz24
  have hs25 := hc23.size
  replace hb := hb.chg hc23 (by omega)
  replace hB11 := hB11.chg hc23 (by omega)
  replace hS17 := hS17.chg hc23 (by omega)
  refine s_nil rfl ?_
  refine x_seq ?_
  refine c_seq ?_
  refine c_region ?_
  refine s_val (v := (.agg #[.int .i64 e.dot.o, .int .i64 e.dot.s, v15, .string e.cart, .int .i64 e.epoch, .string e.sku, .int .i64 e.qty, .bool e.clears])) rfl (r_load rfl (Ld.row (cs := [.int .i64 e.dot.o, .int .i64 e.dot.s, v15, .string e.cart, .int .i64 e.epoch, .string e.sku, .int .i64 e.qty, .bool e.clears]) Try.underlying39 rfl (by kernel_rfl) (hB22.range 0 rfl))) (rfl : _ = [_, _, _, _, _, _, _, _]) ?_
  refine s_store (b := a8) (o := 0) (vs := [.int .i64 e.dot.o, .int .i64 e.dot.s, v15, .string e.cart, .int .i64 e.epoch, .string e.sku, .int .i64 e.qty, .bool e.clears]) (cs := [.int .i64 0, .int .i64 0, .slice none 0 0, .string ⟨#[]⟩, .int .i64 0, .string ⟨#[]⟩, .int .i64 0, .bool false]) (cs' := [.int .i64 e.dot.o, .int .i64 e.dot.s, v15, .string e.cart, .int .i64 e.epoch, .string e.sku, .int .i64 e.qty, .bool e.clears]) 39 _ _ rfl (v := (.agg #[.int .i64 e.dot.o, .int .i64 e.dot.s, v15, .string e.cart, .int .i64 e.epoch, .string e.sku, .int .i64 e.qty, .bool e.clears])) rfl rfl rfl hB11 (by kernel_rfl) ⟨rfl, rfl, hS17.one, rfl, rfl, rfl, rfl, rfl, trivial⟩ (by simp) rfl ?_
  intro w26 hB27 hc28 hz29
  have hs30 := hc28.size
  replace hb := hb.chg hc28 (by omega)
  replace hS17 := hS17.chg hc28 (by omega)
  replace hB22 := hB22.chg hc28 (by omega)
  refine s_nil rfl ?_
  refine x_seq ?_
  refine c_ret ?_
  refine post_cell rfl rfl (Ld.row (cs := [.int .i64 e.dot.o, .int .i64 e.dot.s, v15, .string e.cart, .int .i64 e.epoch, .string e.sku, .int .i64 e.qty, .bool e.clears]) Try.underlying39 rfl (by kernel_rfl) (hB27.range 0 rfl)) ?_
  exact ⟨⟨_, rfl, hS17.rg (by decide) (fun b _ hh => by omega)⟩, hb⟩

end Go.Proofs.Ytailhdcackkegaa.Wd

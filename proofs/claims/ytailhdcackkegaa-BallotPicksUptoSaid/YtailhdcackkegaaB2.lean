/- ballot.Slots, and the document's. -/
import Derived.Test.YtailhdcackkegaaB1
namespace Go.Proofs.Ytailhdcackkegaa.Wd
open Go.RowKit
set_option linter.unusedVariables false
set_option linter.unusedSimpArgs false

theorem slots_c {ok : Nat → Prop} {w : World} {v : Value} {l : List Vot} (hS : Sl kVot ok w v l) :
    CallsV Try.prog 15 #[v] w (fun r w' => Sl kInt (Rg 0 w.heap.size w'.heap.size) w' r (setL (l.map (·.slot))) ∧ Bel w w') := by
  have hb := Bel.refl w
  replace hS : Sl kVot (Rg w.heap.size 0 0) w v l := hS.weak (by decide) (fun b _ hl => .inl hl)
  have hSlim := lim_le hS.lim
  refine callsV_of Try.func15 (m := 21) Try.ntmps15 rfl rfl (l := [v, undef, undef, undef, undef, undef, undef, undef, undef, undef, undef, undef, undef, undef, undef, undef, undef, undef, undef, undef, undef, undef]) rfl ?_
  refine c_seq ?_
  refine c_region ?_
  refine s_val (v := (.slice none 0 0)) rfl (r_assign rfl) (rfl : _ = [_, _, _, _, _, _, _, _, _, _, _, _, _, _, _, _, _, _, _, _, _, _]) ?_
  refine s_nil rfl ?_
  refine x_seq ?_
  refine c_seq ?_
  refine c_region ?_
  refine s_val (v := (.slice none 0 0)) rfl (r_assign rfl) (rfl : _ = [_, _, _, _, _, _, _, _, _, _, _, _, _, _, _, _, _, _, _, _, _, _]) ?_
  refine s_nil rfl ?_
  refine x_seq ?_
  refine c_seq ?_
  refine c_seq ?_
  refine c_region ?_
  refine s_val (v := v) rfl (r_move rfl) (rfl : _ = [_, _, _, _, _, _, _, _, _, _, _, _, _, _, _, _, _, _, _, _, _, _]) ?_
  refine s_val (v := (.int .i64 (l.length : Int))) rfl ((hS.at_ hb).len Try.underlying22 rfl _) (rfl : _ = [_, _, _, _, _, _, _, _, _, _, _, _, _, _, _, _, _, _, _, _, _, _]) ?_
  refine s_val (v := (.int .i64 0)) rfl (r_move rfl) (rfl : _ = [_, _, _, _, _, _, _, _, _, _, _, _, _, _, _, _, _, _, _, _, _, _]) ?_
  refine s_nil rfl ?_
  refine x_seq ?_
  refine c_block ?_
  refine c_loop (fun kk_ fr_ wr1 => ∃ (i : Nat) (out : Value) (hh : Nat) (jk2 : Nat → Value), kk_ = l.length - i ∧ fr_ = [jk2 0, jk2 1, .slice none 0 0, out, jk2 2, jk2 3, v, .int .i64 (l.length : Int), .int .i64 (i : Int), jk2 4, jk2 5, jk2 6, jk2 7, jk2 8, jk2 9, jk2 10, jk2 11, jk2 12, undef, jk2 13, undef, undef] ∧ (i ≤ l.length) ∧ Bel w wr1 ∧ OwnX kInt 3 0 w.heap.size hh wr1 out ((l.take i).map (·.slot))) _ ⟨0, (.slice none 0 0), w.heap.size, (fun n_ => ([v, undef, undef, undef, undef, undef, undef, undef, undef, undef, undef, undef, undef, undef] : List Value).getD n_ undef), rfl, rfl, (Nat.zero_le _), hb, (OwnX.nil _ _ (by omega) (by omega))⟩ ?_
  rintro _ _ wr1 ⟨i, out, hh, jk2, rfl, rfl, hi, hb3, hO⟩
  have hs4 := hb3.size
  have hl5 := hO.hi
  have hl6 := lim_le hO.lim
  refine c_seq ?_
  refine c_region ?_
  refine s_bool (p := ((i : Int) < (l.length : Int) : Prop)) rfl (r_lss rfl rfl) decide_eq_true_iff ?_
  intro b7 hb7
  refine norm (rfl : _ = [_, _, _, _, _, _, _, _, _, _, _, _, _, _, _, _, _, _, _, _, _, _]) ?_
  refine s_nil rfl ?_
  refine x_seq ?_
  refine c_seq ?_
  cases b7 with
  | true =>
    replace hb7 := bt hb7
    refine c_cond rfl (fun _ => ?_) (fun hh => by cases hh)
    refine c_skip ?_
    refine x_seq ?_
    refine c_seq ?_
    refine c_block ?_
    refine c_seq ?_
    refine c_region ?_
    obtain ⟨e8, a9, o10, c11, he12, hc13, hr14, hk15, hi16⟩ := (hS.at_ hb3).idx (j := (i : Int)) (by omega) (by omega)
    rw [Int.toNat_natCast] at he12
    obtain ⟨d17, rfl, hd18⟩ := kVot_cells.1 hc13
    refine s_val rfl (hi16 _ _ _ _ _ _ _ (by kernel_rfl) rfl rfl) (rfl : _ = [_, _, _, _, _, _, _, _, _, _, _, _, _, _, _, _, _, _, _, _, _, _]) ?_
    refine s_val (v := (.agg #[.int .i64 e8.slot, .int .i64 e8.bal.r, .int .i64 e8.bal.n, .bool e8.ent.noop, .string e8.ent.sl.token, .string e8.ent.sl.cart, .int .i64 e8.ent.sl.epoch, d17])) rfl (r_load rfl (Ld.row Try.underlying75 rfl (by kernel_rfl) hr14)) (rfl : _ = [_, _, _, _, _, _, _, _, _, _, _, _, _, _, _, _, _, _, _, _, _, _]) ?_
    refine s_alloc (z := (.agg #[.int .i64 0, .int .i64 0, .int .i64 0, .bool false, .string ⟨#[]⟩, .string ⟨#[]⟩, .int .i64 0, .slice none 0 0])) 75 (by kernel_rfl) rfl ?_
    intro a19 w20 he21 hB22 hc23 hz24
    refine norm (rfl : _ = [_, _, _, _, _, _, _, _, _, _, _, _, _, _, _, _, _, _, _, _, _, _]) ?_
    have hs25 := hc23.size
    replace hb3 := hb3.chg hc23 (by omega)
    replace hO := hO.chg hc23 (by omega)
    replace hd18 := hd18.chg hc23 (by omega)
    refine s_store (b := a19) (o := 0) (vs := [.int .i64 e8.slot, .int .i64 e8.bal.r, .int .i64 e8.bal.n, .bool e8.ent.noop, .string e8.ent.sl.token, .string e8.ent.sl.cart, .int .i64 e8.ent.sl.epoch, d17]) (cs := [.int .i64 0, .int .i64 0, .int .i64 0, .bool false, .string ⟨#[]⟩, .string ⟨#[]⟩, .int .i64 0, .slice none 0 0]) (cs' := [.int .i64 e8.slot, .int .i64 e8.bal.r, .int .i64 e8.bal.n, .bool e8.ent.noop, .string e8.ent.sl.token, .string e8.ent.sl.cart, .int .i64 e8.ent.sl.epoch, d17]) 75 _ _ rfl (v := (.agg #[.int .i64 e8.slot, .int .i64 e8.bal.r, .int .i64 e8.bal.n, .bool e8.ent.noop, .string e8.ent.sl.token, .string e8.ent.sl.cart, .int .i64 e8.ent.sl.epoch, d17])) rfl rfl rfl hB22 (by kernel_rfl) ⟨rfl, rfl, rfl, rfl, rfl, rfl, rfl, hd18.one, trivial⟩ (by simp) rfl ?_
    intro w26 hB27 hc28 hz29
    have hs30 := hc28.size
    replace hb3 := hb3.chg hc28 (by omega)
    replace hO := hO.chg hc28 (by omega)
    replace hd18 := hd18.chg hc28 (by omega)
    refine s_nil rfl ?_
    refine x_seq ?_
    refine c_region ?_
    refine s_val (v := out) rfl (r_move rfl) (rfl : _ = [_, _, _, _, _, _, _, _, _, _, _, _, _, _, _, _, _, _, _, _, _, _]) ?_
    refine s_val (v := (.pointer (some ⟨a19, 0, none⟩))) rfl (r_field (k := 0) (o := 0) (by kernel_rfl) rfl) (rfl : _ = [_, _, _, _, _, _, _, _, _, _, _, _, _, _, _, _, _, _, _, _, _, _]) ?_
    refine s_val (v := (.int .i64 e8.slot)) rfl (r_load rfl (Ld.one Try.underlying3 rfl (hB27.cell (i := 0) rfl))) (rfl : _ = [_, _, _, _, _, _, _, _, _, _, _, _, _, _, _, _, _, _, _, _, _, _]) ?_
    refine s_buildSlice (cs := [.int .i64 e8.slot]) (e := 3) 23 1 _ rfl rfl (by kernel_rfl) ?_
    intro a31 w32 he33 hB34 hc35 hz36
    refine norm (rfl : _ = [_, _, _, _, _, _, _, _, _, _, _, _, _, _, _, _, _, _, _, _, _, _]) ?_
    have hs37 := hc35.size
    replace hb3 := hb3.chg hc35 (by omega)
    replace hO := hO.chg hc35 (by omega)
    replace hd18 := hd18.chg hc35 (by omega)
    replace hB27 := hB27.chg hc35 (by omega)
    refine s_appendX kInt (z := (.int .i64 0)) (bytes := 8) (ys := [e8.slot]) (ok2 := fun _ => False) Try.underlying23 (by kernel_rfl) rfl (by decide) (by decide) (by decide) rfl hO rfl (flat_one rfl) (had_bx hB34) (fun _ hb _ => hb.elim) (by simp [lim]; omega) ?_
    intro v38 w39 hO40 hc41
    refine norm (rfl : _ = [_, _, _, _, _, _, _, _, _, _, _, _, _, _, _, _, _, _, _, _, _, _]) ?_
    have hs42 := hc41.size
    replace hb3 := hb3.chg hc41 (by omega)
    replace hd18 := hd18.chg hc41 (by omega)
    replace hB27 := hB27.chg hc41 (by omega)
    refine s_val (v := v38) rfl (r_assign rfl) (rfl : _ = [_, _, _, _, _, _, _, _, _, _, _, _, _, _, _, _, _, _, _, _, _, _]) ?_
    refine s_nil rfl ?_
    refine x_block ?_
    refine x_seq ?_
    refine c_region ?_
    refine s_val (v := (.int .i64 ((i : Int) + 1))) rfl (r_add (c := (i : Int) + 1) rfl rfl (i64_in (by omega) (by omega))) (rfl : _ = [_, _, _, _, _, _, _, _, _, _, _, _, _, _, _, _, _, _, _, _, _, _]) ?_
    refine s_val (v := (.int .i64 ((i : Int) + 1))) rfl (r_move rfl) (rfl : _ = [_, _, _, _, _, _, _, _, _, _, _, _, _, _, _, _, _, _, _, _, _, _]) ?_
    refine s_nil rfl ?_
    refine x_then ?_
    refine ⟨_, _, ?_, rfl, (i + 1), v38, w39.heap.size, (fun n_ => ([jk2 0, jk2 1, jk2 2, .pointer (some ⟨a19, 0, none⟩), .bool true, .pointer (some ⟨a9, o10, none⟩), .agg #[.int .i64 e8.slot, .int .i64 e8.bal.r, .int .i64 e8.bal.n, .bool e8.ent.noop, .string e8.ent.sl.token, .string e8.ent.sl.cart, .int .i64 e8.ent.sl.epoch, d17], out, .pointer (some ⟨a19, 0, none⟩), .int .i64 e8.slot, .slice (some ⟨a31, 0, none⟩) 1 1, v38, .int .i64 ((i : Int) + 1), jk2 13] : List Value).getD n_ undef), rfl, rfl, (by omega), hb3, (by rw [take_snoc he12, List.map_append]; exact hO40)⟩
    omega
  | false =>
    replace hb7 := bf hb7
    refine c_cond rfl (fun hh => by cases hh) (fun _ => ?_)
    refine c_exit ?_
    refine x_then_exit ?_
    refine x_then_exit ?_
    refine x_block_same ?_
    refine x_seq ?_
    refine c_seq ?_
    refine c_region ?_
    refine s_val (v := out) rfl (r_move rfl) (rfl : _ = [_, _, _, _, _, _, _, _, _, _, _, _, _, _, _, _, _, _, _, _, _, _]) ?_
    refine s_call 46 _ _ (by kernel_rfl) rfl rfl (sort_own Try.slices_Sort_int Try.slices_Sort_int_none hO) ?_
    rintro _ w43 ⟨rfl, hO44, hc45⟩
    refine norm (rfl : _ = [_, _, _, _, _, _, _, _, _, _, _, _, _, _, _, _, _, _, _, _, _, _]) ?_
    have hs46 := hc45.size
    replace hb3 := hb3.chg hc45 (by omega)
    refine s_nil rfl ?_
    refine x_seq ?_
    refine c_seq ?_
    refine c_region ?_
    refine s_val (v := out) rfl (r_move rfl) (rfl : _ = [_, _, _, _, _, _, _, _, _, _, _, _, _, _, _, _, _, _, _, _, _, _]) ?_
    refine s_call 47 _ _ (by kernel_rfl) rfl rfl (compact_own Try.slices_Compact_int Try.slices_Compact_int_empty hO44) ?_
    rintro v47 w48 ⟨hO49, hc50⟩
    refine norm (rfl : _ = [_, _, _, _, _, _, _, _, _, _, _, _, _, _, _, _, _, _, _, _, _, _]) ?_
    have hs51 := hc50.size
    replace hb3 := hb3.chg hc50 (by omega)
    refine s_val (v := v47) rfl (r_assign rfl) (rfl : _ = [_, _, _, _, _, _, _, _, _, _, _, _, _, _, _, _, _, _, _, _, _, _]) ?_
    refine s_nil rfl ?_
    refine x_seq ?_
    refine c_ret ?_
    refine post_ret rfl rfl ?_
    have hi2 : i = l.length := by omega
    subst hi2
    rw [compact_sort, List.take_length] at hO49
    exact ⟨hO49.sl.rg (by decide) (fun b _ hh => by omega), hb3⟩

set_option maxHeartbeats 2000000 in
theorem slotsr_c {ok : Nat → Prop} {w : World} {v : Value} {l : List Vot} (hS : Sl kVot ok w v l) :
    CallsV Try.prog 16 #[v] w (fun r w' => Sl kInt (Rg 0 w.heap.size w'.heap.size) w' r (setL (l.map (·.slot))) ∧ Bel w w') := by
  have hb := Bel.refl w
  replace hS : Sl kVot (Rg w.heap.size 0 0) w v l := hS.weak (by decide) (fun b _ hl => .inl hl)
  have hSlim := lim_le hS.lim
  refine callsV_of Try.func16 (m := 62) Try.ntmps16 rfl rfl (l := [v, undef, undef, undef, undef, undef, undef, undef, undef, undef, undef, undef, undef, undef, undef, undef, undef, undef, undef, undef, undef, undef, undef, undef, undef, undef, undef, undef, undef, undef, undef, undef, undef, undef, undef, undef, undef, undef, undef, undef, undef, undef, undef, undef, undef, undef, undef, undef, undef, undef, undef, undef, undef, undef, undef, undef, undef, undef, undef, undef, undef, undef, undef]) rfl ?_
  refine c_seq ?_
  refine c_region ?_
  refine s_val (v := (.slice none 0 0)) rfl (r_assign rfl) (rfl : _ = [_, _, _, _, _, _, _, _, _, _, _, _, _, _, _, _, _, _, _, _, _, _, _, _, _, _, _, _, _, _, _, _, _, _, _, _, _, _, _, _, _, _, _, _, _, _, _, _, _, _, _, _, _, _, _, _, _, _, _, _, _, _, _]) ?_
  refine s_nil rfl ?_
  refine x_seq ?_
  refine c_seq ?_
  refine c_region ?_
  refine s_val (v := (.slice none 0 0)) rfl (r_assign rfl) (rfl : _ = [_, _, _, _, _, _, _, _, _, _, _, _, _, _, _, _, _, _, _, _, _, _, _, _, _, _, _, _, _, _, _, _, _, _, _, _, _, _, _, _, _, _, _, _, _, _, _, _, _, _, _, _, _, _, _, _, _, _, _, _, _, _, _]) ?_
  refine s_nil rfl ?_
  refine x_seq ?_
  refine c_seq ?_
  refine c_seq ?_
  refine c_region ?_
  refine s_val (v := (.int .i64 0)) rfl (r_assign rfl) (rfl : _ = [_, _, _, _, _, _, _, _, _, _, _, _, _, _, _, _, _, _, _, _, _, _, _, _, _, _, _, _, _, _, _, _, _, _, _, _, _, _, _, _, _, _, _, _, _, _, _, _, _, _, _, _, _, _, _, _, _, _, _, _, _, _, _]) ?_
  refine s_nil rfl ?_
  refine x_seq ?_
  refine c_block ?_
  refine c_loop (fun kk_ fr_ wr1 => ∃ (i : Nat) (out0 : List Int) (out : Value) (nn : Nat) (hh : Nat) (jk2 : Nat → Value), kk_ = l.length - i ∧ fr_ = [v, jk2 0, .slice none 0 0, out, .int .i64 (i : Int), jk2 1, jk2 2, jk2 3, jk2 4, jk2 5, jk2 6, jk2 7, jk2 8, jk2 9, jk2 10, jk2 11, jk2 12, jk2 13, jk2 14, jk2 15, jk2 16, jk2 17, jk2 18, jk2 19, jk2 20, jk2 21, jk2 22, jk2 23, jk2 24, jk2 25, jk2 26, jk2 27, jk2 28, jk2 29, jk2 30, jk2 31, jk2 32, jk2 33, jk2 34, jk2 35, jk2 36, jk2 37, jk2 38, jk2 39, jk2 40, jk2 41, jk2 42, jk2 43, jk2 44, jk2 45, jk2 46, jk2 47, jk2 48, jk2 49, jk2 50, jk2 51, jk2 52, jk2 53, jk2 54, jk2 55, jk2 56, jk2 57, undef] ∧ (i ≤ l.length) ∧ (out0 = setL ((l.take i).map (·.slot))) ∧ (w.heap.size ≤ nn) ∧ Bel w wr1 ∧ OwnX kInt 3 0 nn hh wr1 out out0) _ ⟨0, [], (.slice none 0 0), w.heap.size, w.heap.size, (fun n_ => ([undef, undef, undef, undef, undef, undef, undef, undef, undef, undef, undef, undef, undef, undef, undef, undef, undef, undef, undef, undef, undef, undef, undef, undef, undef, undef, undef, undef, undef, undef, undef, undef, undef, undef, undef, undef, undef, undef, undef, undef, undef, undef, undef, undef, undef, undef, undef, undef, undef, undef, undef, undef, undef, undef, undef, undef, undef, undef] : List Value).getD n_ undef), rfl, rfl, (Nat.zero_le _), rfl, (Nat.le_refl _), hb, (OwnX.nil _ _ (by omega) (by omega))⟩ ?_
  rintro _ _ wr1 ⟨i, out0, out, nn, hh, jk2, rfl, rfl, hi, hset, hnn, hb3, hO⟩
  have hs4 := hb3.size
  have hl5 := hO.hi
  have hl6 := lim_le hO.lim
  refine c_seq ?_
  refine c_seq ?_
  refine c_region ?_
  refine s_val (v := (.int .i64 (i : Int))) rfl (r_move rfl) (rfl : _ = [_, _, _, _, _, _, _, _, _, _, _, _, _, _, _, _, _, _, _, _, _, _, _, _, _, _, _, _, _, _, _, _, _, _, _, _, _, _, _, _, _, _, _, _, _, _, _, _, _, _, _, _, _, _, _, _, _, _, _, _, _, _, _]) ?_
  refine s_val (v := v) rfl (r_move rfl) (rfl : _ = [_, _, _, _, _, _, _, _, _, _, _, _, _, _, _, _, _, _, _, _, _, _, _, _, _, _, _, _, _, _, _, _, _, _, _, _, _, _, _, _, _, _, _, _, _, _, _, _, _, _, _, _, _, _, _, _, _, _, _, _, _, _, _]) ?_
  refine s_val (v := (.int .i64 (l.length : Int))) rfl ((hS.at_ hb3).len Try.underlying22 rfl _) (rfl : _ = [_, _, _, _, _, _, _, _, _, _, _, _, _, _, _, _, _, _, _, _, _, _, _, _, _, _, _, _, _, _, _, _, _, _, _, _, _, _, _, _, _, _, _, _, _, _, _, _, _, _, _, _, _, _, _, _, _, _, _, _, _, _, _]) ?_
  refine s_bool (p := ((i : Int) < (l.length : Int) : Prop)) rfl (r_lss rfl rfl) decide_eq_true_iff ?_
  intro b7 hb7
  refine norm (rfl : _ = [_, _, _, _, _, _, _, _, _, _, _, _, _, _, _, _, _, _, _, _, _, _, _, _, _, _, _, _, _, _, _, _, _, _, _, _, _, _, _, _, _, _, _, _, _, _, _, _, _, _, _, _, _, _, _, _, _, _, _, _, _, _, _]) ?_
  refine s_nil rfl ?_
  refine x_seq ?_
  cases b7 with
  | true =>
    replace hb7 := bt hb7
    refine c_cond rfl (fun _ => ?_) (fun hh => by cases hh)
    refine c_skip ?_
    refine x_seq ?_
    refine c_seq ?_
    refine c_block ?_
    refine c_seq ?_
    refine c_region ?_
    refine s_val (v := (.int .i64 0)) rfl (r_assign rfl) (rfl : _ = [_, _, _, _, _, _, _, _, _, _, _, _, _, _, _, _, _, _, _, _, _, _, _, _, _, _, _, _, _, _, _, _, _, _, _, _, _, _, _, _, _, _, _, _, _, _, _, _, _, _, _, _, _, _, _, _, _, _, _, _, _, _, _]) ?_
    refine s_nil rfl ?_
    refine x_seq ?_
    refine c_seq ?_
    refine c_block ?_
    have hx := List.getElem?_eq_getElem (l := l) (i := i) (by omega)
    obtain ⟨ex, hex⟩ : ∃ ex, l[i]? = some ex := ⟨_, hx⟩
    refine c_loop (fun kk_ fr_ wr8 => ∃ (k : Nat) (jk9 : Nat → Value), kk_ = out0.length - k ∧ fr_ = [v, jk9 0, .slice none 0 0, out, .int .i64 (i : Int), .int .i64 (k : Int), .int .i64 (i : Int), v, .int .i64 (l.length : Int), .bool true, jk2 6, jk2 7, jk9 1, jk9 2, jk9 3, jk9 4, jk9 5, jk9 6, jk9 7, jk9 8, jk9 9, jk9 10, jk9 11, jk9 12, jk9 13, jk9 14, jk9 15, jk9 16, jk9 17, jk9 18, jk2 26, jk2 27, jk2 28, jk2 29, jk2 30, jk2 31, jk2 32, jk2 33, jk2 34, jk2 35, jk2 36, jk2 37, jk2 38, jk2 39, jk2 40, jk2 41, jk2 42, jk2 43, jk2 44, jk2 45, jk2 46, jk2 47, jk2 48, jk2 49, jk2 50, jk2 51, jk2 52, jk2 53, jk2 54, jk2 55, jk2 56, jk2 57, undef] ∧ (k ≤ out0.length) ∧ (lessN ex.slot out0 = k + lessN ex.slot (out0.drop k)) ∧ Bel w wr8 ∧ OwnX kInt 3 0 nn hh wr8 out out0) _ ⟨0, (fun n_ => ([jk2 0, jk2 8, jk2 9, jk2 10, jk2 11, jk2 12, jk2 13, jk2 14, jk2 15, jk2 16, jk2 17, jk2 18, jk2 19, jk2 20, jk2 21, jk2 22, jk2 23, jk2 24, jk2 25] : List Value).getD n_ undef), rfl, rfl, (Nat.zero_le _), (by simp), hb3, hO⟩ ?_
    rintro _ _ wr8 ⟨k, jk9, rfl, rfl, hk, hlk, hb10, hO⟩
    have hs11 := hb10.size
    have hl12 := hO.hi
    have hl13 := lim_le hO.lim
    refine c_seq ?_
    refine c_seq ?_
    refine c_draw (by kernel_rfl) (by kernel_rfl) ?_
    refine q_val (v := (.int .i64 (k : Int))) rfl (fun w' hC => r_move rfl) (rfl : _ = [_, _, _, _, _, _, _, _, _, _, _, _, _, _, _, _, _, _, _, _, _, _, _, _, _, _, _, _, _, _, _, _, _, _, _, _, _, _, _, _, _, _, _, _, _, _, _, _, _, _, _, _, _, _, _, _, _, _, _, _, _, _, _]) ?_
    refine q_val (v := out) rfl (fun w' hC => r_move rfl) (rfl : _ = [_, _, _, _, _, _, _, _, _, _, _, _, _, _, _, _, _, _, _, _, _, _, _, _, _, _, _, _, _, _, _, _, _, _, _, _, _, _, _, _, _, _, _, _, _, _, _, _, _, _, _, _, _, _, _, _, _, _, _, _, _, _, _]) ?_
    refine q_val (v := (.int .i64 (out0.length : Int))) rfl (fun w' hC => hO.sl.len Try.underlying23 rfl _) (rfl : _ = [_, _, _, _, _, _, _, _, _, _, _, _, _, _, _, _, _, _, _, _, _, _, _, _, _, _, _, _, _, _, _, _, _, _, _, _, _, _, _, _, _, _, _, _, _, _, _, _, _, _, _, _, _, _, _, _, _, _, _, _, _, _, _]) ?_
    refine q_bool (p := ((k : Int) < (out0.length : Int) : Prop)) rfl (fun w' hC => r_lss rfl rfl) decide_eq_true_iff ?_
    intro b14 hb14
    refine q_norm (rfl : _ = [_, _, _, _, _, _, _, _, _, _, _, _, _, _, _, _, _, _, _, _, _, _, _, _, _, _, _, _, _, _, _, _, _, _, _, _, _, _, _, _, _, _, _, _, _, _, _, _, _, _, _, _, _, _, _, _, _, _, _, _, _, _, _]) ?_
    refine q_val (v := (.bool b14)) rfl (fun w' hC => r_move rfl) (rfl : _ = [_, _, _, _, _, _, _, _, _, _, _, _, _, _, _, _, _, _, _, _, _, _, _, _, _, _, _, _, _, _, _, _, _, _, _, _, _, _, _, _, _, _, _, _, _, _, _, _, _, _, _, _, _, _, _, _, _, _, _, _, _, _, _]) ?_
    cases b14 with
    | true =>
      replace hb14 := bt hb14
      refine q_val (v := out) (wan_t (dj := 16) rfl rfl) (fun w' hC => r_move rfl) (rfl : _ = [_, _, _, _, _, _, _, _, _, _, _, _, _, _, _, _, _, _, _, _, _, _, _, _, _, _, _, _, _, _, _, _, _, _, _, _, _, _, _, _, _, _, _, _, _, _, _, _, _, _, _, _, _, _, _, _, _, _, _, _, _, _, _]) ?_
      refine q_val (v := (.int .i64 (k : Int))) (wan_t (dj := 16) rfl rfl) (fun w' hC => r_move rfl) (rfl : _ = [_, _, _, _, _, _, _, _, _, _, _, _, _, _, _, _, _, _, _, _, _, _, _, _, _, _, _, _, _, _, _, _, _, _, _, _, _, _, _, _, _, _, _, _, _, _, _, _, _, _, _, _, _, _, _, _, _, _, _, _, _, _, _]) ?_
      obtain ⟨e15, a16, o17, c18, he19, hc20, hr21, hk22, hi23⟩ := hO.sl.idx (j := (k : Int)) (by omega) (by omega)
      rw [Int.toNat_natCast] at he19
      obtain rfl : c18 = [.int .i64 e15] := hc20
      refine q_val (wan_t (dj := 16) rfl rfl) (fun w' hC => hi23 _ _ _ _ _ _ _ (by kernel_rfl) rfl rfl) (rfl : _ = [_, _, _, _, _, _, _, _, _, _, _, _, _, _, _, _, _, _, _, _, _, _, _, _, _, _, _, _, _, _, _, _, _, _, _, _, _, _, _, _, _, _, _, _, _, _, _, _, _, _, _, _, _, _, _, _, _, _, _, _, _, _, _]) ?_
      refine q_val (v := (.int .i64 e15)) (wan_t (dj := 16) rfl rfl) (fun w' hC => r_load rfl (Ld.one Try.underlying3 rfl ((range_below hr21 hC) 0 _ rfl))) (rfl : _ = [_, _, _, _, _, _, _, _, _, _, _, _, _, _, _, _, _, _, _, _, _, _, _, _, _, _, _, _, _, _, _, _, _, _, _, _, _, _, _, _, _, _, _, _, _, _, _, _, _, _, _, _, _, _, _, _, _, _, _, _, _, _, _]) ?_
      refine q_val (v := v) (wan_t (dj := 16) rfl rfl) (fun w' hC => r_move rfl) (rfl : _ = [_, _, _, _, _, _, _, _, _, _, _, _, _, _, _, _, _, _, _, _, _, _, _, _, _, _, _, _, _, _, _, _, _, _, _, _, _, _, _, _, _, _, _, _, _, _, _, _, _, _, _, _, _, _, _, _, _, _, _, _, _, _, _]) ?_
      refine q_val (v := (.int .i64 (i : Int))) (wan_t (dj := 16) rfl rfl) (fun w' hC => r_move rfl) (rfl : _ = [_, _, _, _, _, _, _, _, _, _, _, _, _, _, _, _, _, _, _, _, _, _, _, _, _, _, _, _, _, _, _, _, _, _, _, _, _, _, _, _, _, _, _, _, _, _, _, _, _, _, _, _, _, _, _, _, _, _, _, _, _, _, _]) ?_
      obtain ⟨e24, a25, o26, c27, he28, hc29, hr30, hk31, hi32⟩ := (hS.at_ hb10).idx (j := (i : Int)) (by omega) (by omega)
      rw [Int.toNat_natCast] at he28
      rw [hex] at he28
      injection he28 with he28
      subst he28
      obtain ⟨d33, rfl, hd34⟩ := kVot_cells.1 hc29
      refine q_val (wan_t (dj := 16) rfl rfl) (fun w' hC => hi32 _ _ _ _ _ _ _ (by kernel_rfl) rfl rfl) (rfl : _ = [_, _, _, _, _, _, _, _, _, _, _, _, _, _, _, _, _, _, _, _, _, _, _, _, _, _, _, _, _, _, _, _, _, _, _, _, _, _, _, _, _, _, _, _, _, _, _, _, _, _, _, _, _, _, _, _, _, _, _, _, _, _, _]) ?_
      refine q_val (v := (.pointer (some ⟨a25, o26 + 0, none⟩))) (wan_t (dj := 16) rfl rfl) (fun w' hC => r_field (k := 0) (o := o26) (by kernel_rfl) rfl) (rfl : _ = [_, _, _, _, _, _, _, _, _, _, _, _, _, _, _, _, _, _, _, _, _, _, _, _, _, _, _, _, _, _, _, _, _, _, _, _, _, _, _, _, _, _, _, _, _, _, _, _, _, _, _, _, _, _, _, _, _, _, _, _, _, _, _]) ?_
      refine q_val (v := (.int .i64 ex.slot)) (wan_t (dj := 16) rfl rfl) (fun w' hC => r_load rfl (Ld.one Try.underlying3 rfl ((range_below hr30 hC) 0 _ rfl))) (rfl : _ = [_, _, _, _, _, _, _, _, _, _, _, _, _, _, _, _, _, _, _, _, _, _, _, _, _, _, _, _, _, _, _, _, _, _, _, _, _, _, _, _, _, _, _, _, _, _, _, _, _, _, _, _, _, _, _, _, _, _, _, _, _, _, _]) ?_
      refine q_bool (p := (e15 < ex.slot : Prop)) (wan_t (dj := 16) rfl rfl) (fun w' hC => r_lss rfl rfl) decide_eq_true_iff ?_
      intro b35 hb35
      refine q_norm (rfl : _ = [_, _, _, _, _, _, _, _, _, _, _, _, _, _, _, _, _, _, _, _, _, _, _, _, _, _, _, _, _, _, _, _, _, _, _, _, _, _, _, _, _, _, _, _, _, _, _, _, _, _, _, _, _, _, _, _, _, _, _, _, _, _, _]) ?_
      refine q_val (v := (.bool b35)) rfl (fun w' hC => r_pick rfl rfl) (rfl : _ = [_, _, _, _, _, _, _, _, _, _, _, _, _, _, _, _, _, _, _, _, _, _, _, _, _, _, _, _, _, _, _, _, _, _, _, _, _, _, _, _, _, _, _, _, _, _, _, _, _, _, _, _, _, _, _, _, _, _, _, _, _, _, _]) ?_
      refine q_nil rfl ?_
      intro w36 hq37
      have hc38 := Chg.of_bel hq37
      have hs39 := hc38.size
      replace hb10 := hb10.chg hc38 (by omega)
      replace hO := hO.chg hc38 (by omega)
      replace hd34 := hd34.chg hc38 (by omega)
      refine x_seq ?_
      cases b35 with
      | true =>
        replace hb35 := bt hb35
        refine c_cond rfl (fun _ => ?_) (fun hh => by cases hh)
        refine c_skip ?_
        refine x_seq ?_
        refine c_block ?_
        refine c_region ?_
        refine s_val (v := (.int .i64 (k : Int))) rfl (r_move rfl) (rfl : _ = [_, _, _, _, _, _, _, _, _, _, _, _, _, _, _, _, _, _, _, _, _, _, _, _, _, _, _, _, _, _, _, _, _, _, _, _, _, _, _, _, _, _, _, _, _, _, _, _, _, _, _, _, _, _, _, _, _, _, _, _, _, _, _]) ?_
        refine s_val (v := (.int .i64 ((k : Int) + 1))) rfl (r_add (c := (k : Int) + 1) rfl rfl (i64_in (by omega) (by omega))) (rfl : _ = [_, _, _, _, _, _, _, _, _, _, _, _, _, _, _, _, _, _, _, _, _, _, _, _, _, _, _, _, _, _, _, _, _, _, _, _, _, _, _, _, _, _, _, _, _, _, _, _, _, _, _, _, _, _, _, _, _, _, _, _, _, _, _]) ?_
        refine s_val (v := (.int .i64 ((k : Int) + 1))) rfl (r_assign rfl) (rfl : _ = [_, _, _, _, _, _, _, _, _, _, _, _, _, _, _, _, _, _, _, _, _, _, _, _, _, _, _, _, _, _, _, _, _, _, _, _, _, _, _, _, _, _, _, _, _, _, _, _, _, _, _, _, _, _, _, _, _, _, _, _, _, _, _]) ?_
        refine s_nil rfl ?_
        refine x_block ?_
        refine x_then ?_
        refine ⟨_, _, ?_, rfl, (k + 1), (fun n_ => ([jk9 0, .int .i64 (k : Int), out, .int .i64 (out0.length : Int), .bool true, .bool true, out, .int .i64 (k : Int), .pointer (some ⟨a16, o17, none⟩), .int .i64 e15, v, .int .i64 (i : Int), .pointer (some ⟨a25, o26, none⟩), .pointer (some ⟨a25, o26 + 0, none⟩), .int .i64 ex.slot, .bool true, .bool true, .int .i64 (k : Int), .int .i64 ((k : Int) + 1)] : List Value).getD n_ undef), rfl, rfl, (by omega), (by rw [hlk, lessN_step he19 (by assumption)]; omega), hb10, hO⟩
        omega
      | false =>
        replace hb35 := bf hb35
        refine c_cond rfl (fun hh => by cases hh) (fun _ => ?_)
        refine c_exit ?_
        refine x_then_exit ?_
        refine x_then_exit ?_
        refine x_block_same ?_
        refine x_seq ?_
        refine c_seq ?_
        refine c_draw (by kernel_rfl) (by kernel_rfl) ?_
        refine q_val (v := (.int .i64 (k : Int))) rfl (fun w' hC => r_move rfl) (rfl : _ = [_, _, _, _, _, _, _, _, _, _, _, _, _, _, _, _, _, _, _, _, _, _, _, _, _, _, _, _, _, _, _, _, _, _, _, _, _, _, _, _, _, _, _, _, _, _, _, _, _, _, _, _, _, _, _, _, _, _, _, _, _, _, _]) ?_
        refine q_val (v := out) rfl (fun w' hC => r_move rfl) (rfl : _ = [_, _, _, _, _, _, _, _, _, _, _, _, _, _, _, _, _, _, _, _, _, _, _, _, _, _, _, _, _, _, _, _, _, _, _, _, _, _, _, _, _, _, _, _, _, _, _, _, _, _, _, _, _, _, _, _, _, _, _, _, _, _, _]) ?_
        refine q_val (v := (.int .i64 (out0.length : Int))) rfl (fun w' hC => hO.sl.len Try.underlying23 rfl _) (rfl : _ = [_, _, _, _, _, _, _, _, _, _, _, _, _, _, _, _, _, _, _, _, _, _, _, _, _, _, _, _, _, _, _, _, _, _, _, _, _, _, _, _, _, _, _, _, _, _, _, _, _, _, _, _, _, _, _, _, _, _, _, _, _, _, _]) ?_
        refine q_bool (p := ((k : Int) = (out0.length : Int) : Prop)) rfl (fun w' hC => r_eqi rfl rfl) eqi_iff ?_
        intro b40 hb40
        refine q_norm (rfl : _ = [_, _, _, _, _, _, _, _, _, _, _, _, _, _, _, _, _, _, _, _, _, _, _, _, _, _, _, _, _, _, _, _, _, _, _, _, _, _, _, _, _, _, _, _, _, _, _, _, _, _, _, _, _, _, _, _, _, _, _, _, _, _, _]) ?_
        refine q_val (v := (.bool b40)) rfl (fun w' hC => r_move rfl) (rfl : _ = [_, _, _, _, _, _, _, _, _, _, _, _, _, _, _, _, _, _, _, _, _, _, _, _, _, _, _, _, _, _, _, _, _, _, _, _, _, _, _, _, _, _, _, _, _, _, _, _, _, _, _, _, _, _, _, _, _, _, _, _, _, _, _]) ?_
        cases b40 with
        | true =>
          replace hb40 := bt hb40
          refine q_skip (wan_f (dj := 34) rfl rfl rfl) (rfl : _ = [_, _, _, _, _, _, _, _, _, _, _, _, _, _, _, _, _, _, _, _, _, _, _, _, _, _, _, _, _, _, _, _, _, _, _, _, _, _, _, _, _, _, _, _, _, _, _, _, _, _, _, _, _, _, _, _, _, _, _, _, _, _, _]) ?_
          refine q_skip (wan_f (dj := 34) rfl rfl rfl) (rfl : _ = [_, _, _, _, _, _, _, _, _, _, _, _, _, _, _, _, _, _, _, _, _, _, _, _, _, _, _, _, _, _, _, _, _, _, _, _, _, _, _, _, _, _, _, _, _, _, _, _, _, _, _, _, _, _, _, _, _, _, _, _, _, _, _]) ?_
          refine q_skip (wan_f (dj := 34) rfl rfl rfl) (rfl : _ = [_, _, _, _, _, _, _, _, _, _, _, _, _, _, _, _, _, _, _, _, _, _, _, _, _, _, _, _, _, _, _, _, _, _, _, _, _, _, _, _, _, _, _, _, _, _, _, _, _, _, _, _, _, _, _, _, _, _, _, _, _, _, _]) ?_
          refine q_skip (wan_f (dj := 34) rfl rfl rfl) (rfl : _ = [_, _, _, _, _, _, _, _, _, _, _, _, _, _, _, _, _, _, _, _, _, _, _, _, _, _, _, _, _, _, _, _, _, _, _, _, _, _, _, _, _, _, _, _, _, _, _, _, _, _, _, _, _, _, _, _, _, _, _, _, _, _, _]) ?_
          refine q_skip (wan_f (dj := 34) rfl rfl rfl) (rfl : _ = [_, _, _, _, _, _, _, _, _, _, _, _, _, _, _, _, _, _, _, _, _, _, _, _, _, _, _, _, _, _, _, _, _, _, _, _, _, _, _, _, _, _, _, _, _, _, _, _, _, _, _, _, _, _, _, _, _, _, _, _, _, _, _]) ?_
          refine q_skip (wan_f (dj := 34) rfl rfl rfl) (rfl : _ = [_, _, _, _, _, _, _, _, _, _, _, _, _, _, _, _, _, _, _, _, _, _, _, _, _, _, _, _, _, _, _, _, _, _, _, _, _, _, _, _, _, _, _, _, _, _, _, _, _, _, _, _, _, _, _, _, _, _, _, _, _, _, _]) ?_
          refine q_skip (wan_f (dj := 34) rfl rfl rfl) (rfl : _ = [_, _, _, _, _, _, _, _, _, _, _, _, _, _, _, _, _, _, _, _, _, _, _, _, _, _, _, _, _, _, _, _, _, _, _, _, _, _, _, _, _, _, _, _, _, _, _, _, _, _, _, _, _, _, _, _, _, _, _, _, _, _, _]) ?_
          refine q_skip (wan_f (dj := 34) rfl rfl rfl) (rfl : _ = [_, _, _, _, _, _, _, _, _, _, _, _, _, _, _, _, _, _, _, _, _, _, _, _, _, _, _, _, _, _, _, _, _, _, _, _, _, _, _, _, _, _, _, _, _, _, _, _, _, _, _, _, _, _, _, _, _, _, _, _, _, _, _]) ?_
          refine q_skip (wan_f (dj := 34) rfl rfl rfl) (rfl : _ = [_, _, _, _, _, _, _, _, _, _, _, _, _, _, _, _, _, _, _, _, _, _, _, _, _, _, _, _, _, _, _, _, _, _, _, _, _, _, _, _, _, _, _, _, _, _, _, _, _, _, _, _, _, _, _, _, _, _, _, _, _, _, _]) ?_
          refine q_skip (wan_f (dj := 34) rfl rfl rfl) (rfl : _ = [_, _, _, _, _, _, _, _, _, _, _, _, _, _, _, _, _, _, _, _, _, _, _, _, _, _, _, _, _, _, _, _, _, _, _, _, _, _, _, _, _, _, _, _, _, _, _, _, _, _, _, _, _, _, _, _, _, _, _, _, _, _, _]) ?_
          refine q_val (v := (.bool true)) rfl (fun w' hC => r_pick rfl rfl) (rfl : _ = [_, _, _, _, _, _, _, _, _, _, _, _, _, _, _, _, _, _, _, _, _, _, _, _, _, _, _, _, _, _, _, _, _, _, _, _, _, _, _, _, _, _, _, _, _, _, _, _, _, _, _, _, _, _, _, _, _, _, _, _, _, _, _]) ?_
          refine q_nil rfl ?_
          intro w41 hq42
          have hc43 := Chg.of_bel hq42
          have hs44 := hc43.size
          replace hb10 := hb10.chg hc43 (by omega)
          replace hO := hO.chg hc43 (by omega)
          replace hd34 := hd34.chg hc43 (by omega)
          refine x_seq ?_
          refine c_cond rfl (fun _ => ?_) (fun hh => by cases hh)
          refine c_held (by kernel_rfl) (by kernel_rfl) rfl rfl ?_
          intro w45 hb46 hz47
          have hc49 := Chg.of_bel hb46
          have hs50 := hc49.size
          replace hb10 := hb10.chg hc49 (by omega)
          replace hO := hO.chg hc49 (by omega)
          replace hd34 := hd34.chg hc49 (by omega)
          have hr48 := Bel.refl w45
          have hbz51 := hb10
          have hOz52 := hO
          have hdz53 := hd34
          refine h_take 1 rfl (by kernel_rfl) (rfl : _ = [false, true, false, false, false, false, false, false, false, false, false, false, false, false, false, false, false]) ?_
          refine h_val (v := out) rfl (fun w' hC => r_move rfl) (rfl : _ = [_, _, _, _, _, _, _, _, _, _, _, _, _, _, _, _, _, _, _, _, _, _, _, _, _, _, _, _, _, _, _, _, _, _, _, _, _, _, _, _, _, _, _, _, _, _, _, _, _, _, _, _, _, _, _, _, _, _, _, _, _, _, _]) ?_
          refine h_take 2 rfl (by kernel_rfl) (rfl : _ = [false, true, true, false, false, false, false, false, false, false, false, false, false, false, false, false, false]) ?_
          refine h_val (v := (.int .i64 (k : Int))) rfl (fun w' hC => r_move rfl) (rfl : _ = [_, _, _, _, _, _, _, _, _, _, _, _, _, _, _, _, _, _, _, _, _, _, _, _, _, _, _, _, _, _, _, _, _, _, _, _, _, _, _, _, _, _, _, _, _, _, _, _, _, _, _, _, _, _, _, _, _, _, _, _, _, _, _]) ?_
          refine h_take 3 rfl (by kernel_rfl) (rfl : _ = [false, true, true, true, false, false, false, false, false, false, false, false, false, false, false, false, false]) ?_
          obtain ⟨v54, hS55, hk56⟩ := ((hOz52.sl)).take (i := (k : Int)) (by omega) (by omega)
          rw [Int.toNat_natCast] at hS55
          refine h_val rfl (fun w' hC => hk56 _ _ _ _ _ _ _ (by kernel_rfl) rfl rfl) (rfl : _ = [_, _, _, _, _, _, _, _, _, _, _, _, _, _, _, _, _, _, _, _, _, _, _, _, _, _, _, _, _, _, _, _, _, _, _, _, _, _, _, _, _, _, _, _, _, _, _, _, _, _, _, _, _, _, _, _, _, _, _, _, _, _, _]) ?_
          refine h_take 5 rfl (by kernel_rfl) (rfl : _ = [false, true, true, true, false, true, false, false, false, false, false, false, false, false, false, false, false]) ?_
          refine h_val (v := v) rfl (fun w' hC => r_move rfl) (rfl : _ = [_, _, _, _, _, _, _, _, _, _, _, _, _, _, _, _, _, _, _, _, _, _, _, _, _, _, _, _, _, _, _, _, _, _, _, _, _, _, _, _, _, _, _, _, _, _, _, _, _, _, _, _, _, _, _, _, _, _, _, _, _, _, _]) ?_
          refine h_take 6 rfl (by kernel_rfl) (rfl : _ = [false, true, true, true, false, true, true, false, false, false, false, false, false, false, false, false, false]) ?_
          refine h_val (v := (.int .i64 (i : Int))) rfl (fun w' hC => r_move rfl) (rfl : _ = [_, _, _, _, _, _, _, _, _, _, _, _, _, _, _, _, _, _, _, _, _, _, _, _, _, _, _, _, _, _, _, _, _, _, _, _, _, _, _, _, _, _, _, _, _, _, _, _, _, _, _, _, _, _, _, _, _, _, _, _, _, _, _]) ?_
          refine h_take 7 rfl (by kernel_rfl) (rfl : _ = [false, true, true, true, false, true, true, true, false, false, false, false, false, false, false, false, false]) ?_
          obtain ⟨e57, a58, o59, c60, he61, hc62, hr63, hk64, hi65⟩ := ((hS.at_ hbz51)).idx (j := (i : Int)) (by omega) (by omega)
          rw [Int.toNat_natCast] at he61
          rw [hex] at he61
          injection he61 with he61
          subst he61
          obtain ⟨d66, rfl, hd67⟩ := kVot_cells.1 hc62
          refine h_val rfl (fun w' hC => hi65 _ _ _ _ _ _ _ (by kernel_rfl) rfl rfl) (rfl : _ = [_, _, _, _, _, _, _, _, _, _, _, _, _, _, _, _, _, _, _, _, _, _, _, _, _, _, _, _, _, _, _, _, _, _, _, _, _, _, _, _, _, _, _, _, _, _, _, _, _, _, _, _, _, _, _, _, _, _, _, _, _, _, _]) ?_
          refine h_take 8 rfl (by kernel_rfl) (rfl : _ = [false, true, true, true, false, true, true, true, true, false, false, false, false, false, false, false, false]) ?_
          refine h_val (v := (.pointer (some ⟨a58, o59 + 0, none⟩))) rfl (fun w' hC => r_field (k := 0) (o := o59) (by kernel_rfl) rfl) (rfl : _ = [_, _, _, _, _, _, _, _, _, _, _, _, _, _, _, _, _, _, _, _, _, _, _, _, _, _, _, _, _, _, _, _, _, _, _, _, _, _, _, _, _, _, _, _, _, _, _, _, _, _, _, _, _, _, _, _, _, _, _, _, _, _, _]) ?_
          refine h_take 9 rfl (by kernel_rfl) (rfl : _ = [false, true, true, true, false, true, true, true, true, true, false, false, false, false, false, false, false]) ?_
          refine h_val (v := (.int .i64 ex.slot)) rfl (fun w' hC => r_load rfl (Ld.one Try.underlying3 rfl ((range_below hr63 hC) 0 _ rfl))) (rfl : _ = [_, _, _, _, _, _, _, _, _, _, _, _, _, _, _, _, _, _, _, _, _, _, _, _, _, _, _, _, _, _, _, _, _, _, _, _, _, _, _, _, _, _, _, _, _, _, _, _, _, _, _, _, _, _, _, _, _, _, _, _, _, _, _]) ?_
          refine h_take 12 rfl (by kernel_rfl) (rfl : _ = [false, true, true, true, false, true, true, true, true, true, false, false, true, false, false, false, false]) ?_
          refine h_val (v := out) rfl (fun w' hC => r_move rfl) (rfl : _ = [_, _, _, _, _, _, _, _, _, _, _, _, _, _, _, _, _, _, _, _, _, _, _, _, _, _, _, _, _, _, _, _, _, _, _, _, _, _, _, _, _, _, _, _, _, _, _, _, _, _, _, _, _, _, _, _, _, _, _, _, _, _, _]) ?_
          refine h_take 13 rfl (by kernel_rfl) (rfl : _ = [false, true, true, true, false, true, true, true, true, true, false, false, true, true, false, false, false]) ?_
          refine h_val (v := (.int .i64 (k : Int))) rfl (fun w' hC => r_move rfl) (rfl : _ = [_, _, _, _, _, _, _, _, _, _, _, _, _, _, _, _, _, _, _, _, _, _, _, _, _, _, _, _, _, _, _, _, _, _, _, _, _, _, _, _, _, _, _, _, _, _, _, _, _, _, _, _, _, _, _, _, _, _, _, _, _, _, _]) ?_
          refine h_take 14 rfl (by kernel_rfl) (rfl : _ = [false, true, true, true, false, true, true, true, true, true, false, false, true, true, true, false, false]) ?_
          obtain ⟨v68, hS69, hk70⟩ := ((hOz52.sl)).drop (i := (k : Int)) (by omega) (by omega)
          rw [Int.toNat_natCast] at hS69
          refine h_val rfl (fun w' hC => hk70 _ _ _ _ _ _ _ (by kernel_rfl) rfl rfl) (rfl : _ = [_, _, _, _, _, _, _, _, _, _, _, _, _, _, _, _, _, _, _, _, _, _, _, _, _, _, _, _, _, _, _, _, _, _, _, _, _, _, _, _, _, _, _, _, _, _, _, _, _, _, _, _, _, _, _, _, _, _, _, _, _, _, _]) ?_
          refine h_two 0 10 (by kernel_rfl) rfl rfl (rfl : _ = [true, true, true, true, false, true, true, true, true, true, false, false, true, true, true, false, false]) (rfl : _ = [false, true, true, true, false, true, true, true, true, true, true, false, true, true, true, false, false]) ?_ ?_
          · skip
            refine s_buildSlice (cs := []) (e := 3) 23 0 _ rfl rfl (by kernel_rfl) ?_
            intro a71 w72 he73 hB74 hc75 hz76
            refine norm (rfl : _ = [_, _, _, _, _, _, _, _, _, _, _, _, _, _, _, _, _, _, _, _, _, _, _, _, _, _, _, _, _, _, _, _, _, _, _, _, _, _, _, _, _, _, _, _, _, _, _, _, _, _, _, _, _, _, _, _, _, _, _, _, _, _, _]) ?_
            have hs77 := hc75.size
            replace hb10 := hb10.chg hc75 (by omega)
            replace hr48 := hr48.chg hc75 (by omega)
            replace hO := hO.chg hc75 (by omega)
            replace hd34 := hd34.chg hc75 (by omega)
            refine s_nil rfl ?_
            refine x_h hr48 ?_
            refine h_two 4 10 (by kernel_rfl) rfl rfl (rfl : _ = [true, true, true, true, true, true, true, true, true, true, false, false, true, true, true, false, false]) (rfl : _ = [true, true, true, true, false, true, true, true, true, true, true, false, true, true, true, false, false]) ?_ ?_
            · skip
              have hO78 : OwnX kInt 3 0 a71 (a71 + 1) w72 (.slice (some ⟨a71, 0, none⟩) 0 0) [] := OwnX.of_bx (ok := (fun _ => False)) hB74 .nil rfl (by simp [lim]) (by omega) (Nat.le_refl _) (by omega) (by omega) (fun _ hb _ => hb.elim)
              obtain ⟨ad79, c80, ds81, hv82, hF83, had84⟩ := ((hS55.keep (Kept.all hr48))).flat
              refine s_appendX kInt (z := (.int .i64 0)) (bytes := 8) (ys := (out0.take k)) (ok2 := fun _ => False) Try.underlying23 (by kernel_rfl) rfl (by decide) (by decide) (by decide) rfl hO78 hv82 (hF83.any kInt_plain (fun _ => False) _) had84 (fun _ hb _ => hb.elim) (by have hle3 := setL_len ((l.take i).map (·.slot)); rw [← hset] at hle3; simp [lim] at *; omega) ?_
              intro v85 w86 hO87 hc88
              refine norm (rfl : _ = [_, _, _, _, _, _, _, _, _, _, _, _, _, _, _, _, _, _, _, _, _, _, _, _, _, _, _, _, _, _, _, _, _, _, _, _, _, _, _, _, _, _, _, _, _, _, _, _, _, _, _, _, _, _, _, _, _, _, _, _, _, _, _]) ?_
              have hs89 := hc88.size
              replace hb10 := hb10.chg hc88 (by omega)
              replace hr48 := hr48.chg hc88 (by omega)
              replace hO := hO.chg hc88 (by omega)
              replace hd34 := hd34.chg hc88 (by omega)
              refine s_nil rfl ?_
              refine x_h hr48 ?_
              refine h_one 10 (by kernel_rfl) rfl (rfl : _ = [true, true, true, true, true, true, true, true, true, true, true, false, true, true, true, false, false]) ?_
              refine s_buildSlice (cs := [.int .i64 ex.slot]) (e := 3) 23 1 _ rfl rfl (by kernel_rfl) ?_
              intro a90 w91 he92 hB93 hc94 hz95
              refine norm (rfl : _ = [_, _, _, _, _, _, _, _, _, _, _, _, _, _, _, _, _, _, _, _, _, _, _, _, _, _, _, _, _, _, _, _, _, _, _, _, _, _, _, _, _, _, _, _, _, _, _, _, _, _, _, _, _, _, _, _, _, _, _, _, _, _, _]) ?_
              have hs96 := hc94.size
              replace hb10 := hb10.chg hc94 (by omega)
              replace hr48 := hr48.chg hc94 (by omega)
              replace hO := hO.chg hc94 (by omega)
              replace hd34 := hd34.chg hc94 (by omega)
              replace hO87 := hO87.chg hc94 (by omega)
              refine s_nil rfl ?_
              refine x_h hr48 ?_
              refine h_one 11 (by kernel_rfl) rfl (rfl : _ = [true, true, true, true, true, true, true, true, true, true, true, true, true, true, true, false, false]) ?_
              refine s_appendX kInt (z := (.int .i64 0)) (bytes := 8) (ys := [ex.slot]) (ok2 := fun _ => False) Try.underlying23 (by kernel_rfl) rfl (by decide) (by decide) (by decide) rfl hO87 rfl (flat_one rfl) (had_bx hB93) (fun _ hb _ => hb.elim) (by have hle3 := setL_len ((l.take i).map (·.slot)); rw [← hset] at hle3; simp [lim] at *; omega) ?_
              intro v97 w98 hO99 hc100
              refine norm (rfl : _ = [_, _, _, _, _, _, _, _, _, _, _, _, _, _, _, _, _, _, _, _, _, _, _, _, _, _, _, _, _, _, _, _, _, _, _, _, _, _, _, _, _, _, _, _, _, _, _, _, _, _, _, _, _, _, _, _, _, _, _, _, _, _, _]) ?_
              have hs101 := hc100.size
              replace hb10 := hb10.chg hc100 (by omega)
              replace hr48 := hr48.chg hc100 (by omega)
              replace hO := hO.chg hc100 (by omega)
              replace hd34 := hd34.chg hc100 (by omega)
              refine s_nil rfl ?_
              refine x_h hr48 ?_
              refine h_one 15 (by kernel_rfl) rfl (rfl : _ = [true, true, true, true, true, true, true, true, true, true, true, true, true, true, true, true, false]) ?_
              obtain ⟨ad102, c103, ds104, hv105, hF106, had107⟩ := ((hS69.keep (Kept.all hr48))).flat
              refine s_appendX kInt (z := (.int .i64 0)) (bytes := 8) (ys := (out0.drop k)) (ok2 := fun _ => False) Try.underlying23 (by kernel_rfl) rfl (by decide) (by decide) (by decide) rfl hO99 hv105 (hF106.any kInt_plain (fun _ => False) _) had107 (fun _ hb _ => hb.elim) (by have hle3 := setL_len ((l.take i).map (·.slot)); rw [← hset] at hle3; simp [lim] at *; omega) ?_
              intro v108 w109 hO110 hc111
              refine norm (rfl : _ = [_, _, _, _, _, _, _, _, _, _, _, _, _, _, _, _, _, _, _, _, _, _, _, _, _, _, _, _, _, _, _, _, _, _, _, _, _, _, _, _, _, _, _, _, _, _, _, _, _, _, _, _, _, _, _, _, _, _, _, _, _, _, _]) ?_
              have hs112 := hc111.size
              replace hb10 := hb10.chg hc111 (by omega)
              replace hr48 := hr48.chg hc111 (by omega)
              replace hO := hO.chg hc111 (by omega)
              replace hd34 := hd34.chg hc111 (by omega)
              refine s_nil rfl ?_
              refine x_h hr48 ?_
              refine h_take 16 rfl (by kernel_rfl) (rfl : _ = [true, true, true, true, true, true, true, true, true, true, true, true, true, true, true, true, true]) ?_
              refine h_val (v := v108) rfl (fun w' hC => r_assign rfl) (rfl : _ = [_, _, _, _, _, _, _, _, _, _, _, _, _, _, _, _, _, _, _, _, _, _, _, _, _, _, _, _, _, _, _, _, _, _, _, _, _, _, _, _, _, _, _, _, _, _, _, _, _, _, _, _, _, _, _, _, _, _, _, _, _, _, _]) ?_
              refine h_nil (by kernel_rfl) rfl ?_
              replace hS55 := hS55.keep (Kept.all hr48)
              replace hS69 := hS69.keep (Kept.all hr48)
              replace hd67 := hd67.keep (Kept.all hr48)
              refine x_block ?_
              refine x_seq ?_
              refine c_region ?_
              refine s_val (v := (.int .i64 (i : Int))) rfl (r_move rfl) (rfl : _ = [_, _, _, _, _, _, _, _, _, _, _, _, _, _, _, _, _, _, _, _, _, _, _, _, _, _, _, _, _, _, _, _, _, _, _, _, _, _, _, _, _, _, _, _, _, _, _, _, _, _, _, _, _, _, _, _, _, _, _, _, _, _, _]) ?_
              refine s_val (v := (.int .i64 ((i : Int) + 1))) rfl (r_add (c := (i : Int) + 1) rfl rfl (i64_in (by omega) (by omega))) (rfl : _ = [_, _, _, _, _, _, _, _, _, _, _, _, _, _, _, _, _, _, _, _, _, _, _, _, _, _, _, _, _, _, _, _, _, _, _, _, _, _, _, _, _, _, _, _, _, _, _, _, _, _, _, _, _, _, _, _, _, _, _, _, _, _, _]) ?_
              refine s_val (v := (.int .i64 ((i : Int) + 1))) rfl (r_assign rfl) (rfl : _ = [_, _, _, _, _, _, _, _, _, _, _, _, _, _, _, _, _, _, _, _, _, _, _, _, _, _, _, _, _, _, _, _, _, _, _, _, _, _, _, _, _, _, _, _, _, _, _, _, _, _, _, _, _, _, _, _, _, _, _, _, _, _, _]) ?_
              refine s_nil rfl ?_
              refine x_then ?_
              have hle2 := setL_len ((l.take i).map (·.slot))
              rw [← hset] at hle2
              simp only [List.length_map, List.length_take] at hle2
              have hzz : lessN ex.slot (out0.drop k) = 0 := by first | exact lessN_end (by omega) | exact lessN_stop he19 (by assumption)
              have hlk2 : lessN ex.slot out0 = k := by omega
              have hnew : setL ((l.take (i + 1)).map (·.slot)) = ((([] ++ (out0.take k)) ++ [ex.slot]) ++ (out0.drop k)) := by
                rw [setL_snoc hex, ← hset, insL, hlk2]
                rw [if_neg (fun hh => by first | (rw [List.getElem?_eq_none (by omega)] at hh; cases hh) | (rw [he19] at hh; injection hh with hh; exact absurd hh (by assumption)))]
                simp
              refine ⟨_, _, ?_, rfl, (i + 1), ((([] ++ (out0.take k)) ++ [ex.slot]) ++ (out0.drop k)), v108, a71, w109.heap.size, (fun n_ => ([jk9 0, .int .i64 (k : Int), .int .i64 (i : Int), v, .int .i64 (l.length : Int), .bool true, .int .i64 (i : Int), .int .i64 ((i : Int) + 1), .int .i64 (k : Int), out, .int .i64 (out0.length : Int), .bool true, .bool true, out, .int .i64 (k : Int), .pointer (some ⟨a16, o17, none⟩), .int .i64 e15, v, .int .i64 (i : Int), .pointer (some ⟨a25, o26, none⟩), .pointer (some ⟨a25, o26 + 0, none⟩), .int .i64 ex.slot, .bool false, .bool false, jk9 17, jk9 18, .int .i64 (k : Int), out, .int .i64 (out0.length : Int), .bool true, .bool true, undef, undef, undef, undef, undef, undef, undef, undef, undef, undef, .bool true, .slice (some ⟨a71, 0, none⟩) 0 0, out, .int .i64 (k : Int), v54, v85, v, .int .i64 (i : Int), .pointer (some ⟨a58, o59, none⟩), .pointer (some ⟨a58, o59 + 0, none⟩), .int .i64 ex.slot, .slice (some ⟨a90, 0, none⟩) 1 1, v97, out, .int .i64 (k : Int), v68, v108] : List Value).getD n_ undef), rfl, rfl, (by omega), hnew.symm, (by omega), hb10, hO110⟩
              omega
            · skip
              refine s_buildSlice (cs := [.int .i64 ex.slot]) (e := 3) 23 1 _ rfl rfl (by kernel_rfl) ?_
              intro a113 w114 he115 hB116 hc117 hz118
              refine norm (rfl : _ = [_, _, _, _, _, _, _, _, _, _, _, _, _, _, _, _, _, _, _, _, _, _, _, _, _, _, _, _, _, _, _, _, _, _, _, _, _, _, _, _, _, _, _, _, _, _, _, _, _, _, _, _, _, _, _, _, _, _, _, _, _, _, _]) ?_
              have hs119 := hc117.size
              replace hb10 := hb10.chg hc117 (by omega)
              replace hr48 := hr48.chg hc117 (by omega)
              replace hO := hO.chg hc117 (by omega)
              replace hd34 := hd34.chg hc117 (by omega)
              replace hB74 := hB74.chg hc117 (by omega)
              refine s_nil rfl ?_
              refine x_h hr48 ?_
              refine h_one 4 (by kernel_rfl) rfl (rfl : _ = [true, true, true, true, true, true, true, true, true, true, true, false, true, true, true, false, false]) ?_
              have hO120 : OwnX kInt 3 0 a71 (a71 + 1) w114 (.slice (some ⟨a71, 0, none⟩) 0 0) [] := OwnX.of_bx (ok := (fun _ => False)) hB74 .nil rfl (by simp [lim]) (by omega) (Nat.le_refl _) (by omega) (by omega) (fun _ hb _ => hb.elim)
              obtain ⟨ad121, c122, ds123, hv124, hF125, had126⟩ := ((hS55.keep (Kept.all hr48))).flat
              refine s_appendX kInt (z := (.int .i64 0)) (bytes := 8) (ys := (out0.take k)) (ok2 := fun _ => False) Try.underlying23 (by kernel_rfl) rfl (by decide) (by decide) (by decide) rfl hO120 hv124 (hF125.any kInt_plain (fun _ => False) _) had126 (fun _ hb _ => hb.elim) (by have hle3 := setL_len ((l.take i).map (·.slot)); rw [← hset] at hle3; simp [lim] at *; omega) ?_
              intro v127 w128 hO129 hc130
              refine norm (rfl : _ = [_, _, _, _, _, _, _, _, _, _, _, _, _, _, _, _, _, _, _, _, _, _, _, _, _, _, _, _, _, _, _, _, _, _, _, _, _, _, _, _, _, _, _, _, _, _, _, _, _, _, _, _, _, _, _, _, _, _, _, _, _, _, _]) ?_
              have hs131 := hc130.size
              replace hb10 := hb10.chg hc130 (by omega)
              replace hr48 := hr48.chg hc130 (by omega)
              replace hO := hO.chg hc130 (by omega)
              replace hd34 := hd34.chg hc130 (by omega)
              replace hB116 := hB116.chg hc130 (by omega)
              refine s_nil rfl ?_
              refine x_h hr48 ?_
              refine h_one 11 (by kernel_rfl) rfl (rfl : _ = [true, true, true, true, true, true, true, true, true, true, true, true, true, true, true, false, false]) ?_
              refine s_appendX kInt (z := (.int .i64 0)) (bytes := 8) (ys := [ex.slot]) (ok2 := fun _ => False) Try.underlying23 (by kernel_rfl) rfl (by decide) (by decide) (by decide) rfl hO129 rfl (flat_one rfl) (had_bx hB116) (fun _ hb _ => hb.elim) (by have hle3 := setL_len ((l.take i).map (·.slot)); rw [← hset] at hle3; simp [lim] at *; omega) ?_
              intro v132 w133 hO134 hc135
              refine norm (rfl : _ = [_, _, _, _, _, _, _, _, _, _, _, _, _, _, _, _, _, _, _, _, _, _, _, _, _, _, _, _, _, _, _, _, _, _, _, _, _, _, _, _, _, _, _, _, _, _, _, _, _, _, _, _, _, _, _, _, _, _, _, _, _, _, _]) ?_
              have hs136 := hc135.size
              replace hb10 := hb10.chg hc135 (by omega)
              replace hr48 := hr48.chg hc135 (by omega)
              replace hO := hO.chg hc135 (by omega)
              replace hd34 := hd34.chg hc135 (by omega)
              refine s_nil rfl ?_
              refine x_h hr48 ?_
              refine h_one 15 (by kernel_rfl) rfl (rfl : _ = [true, true, true, true, true, true, true, true, true, true, true, true, true, true, true, true, false]) ?_
              obtain ⟨ad137, c138, ds139, hv140, hF141, had142⟩ := ((hS69.keep (Kept.all hr48))).flat
              refine s_appendX kInt (z := (.int .i64 0)) (bytes := 8) (ys := (out0.drop k)) (ok2 := fun _ => False) Try.underlying23 (by kernel_rfl) rfl (by decide) (by decide) (by decide) rfl hO134 hv140 (hF141.any kInt_plain (fun _ => False) _) had142 (fun _ hb _ => hb.elim) (by have hle3 := setL_len ((l.take i).map (·.slot)); rw [← hset] at hle3; simp [lim] at *; omega) ?_
              intro v143 w144 hO145 hc146
              refine norm (rfl : _ = [_, _, _, _, _, _, _, _, _, _, _, _, _, _, _, _, _, _, _, _, _, _, _, _, _, _, _, _, _, _, _, _, _, _, _, _, _, _, _, _, _, _, _, _, _, _, _, _, _, _, _, _, _, _, _, _, _, _, _, _, _, _, _]) ?_
              have hs147 := hc146.size
              replace hb10 := hb10.chg hc146 (by omega)
              replace hr48 := hr48.chg hc146 (by omega)
              replace hO := hO.chg hc146 (by omega)
              replace hd34 := hd34.chg hc146 (by omega)
              refine s_nil rfl ?_
              refine x_h hr48 ?_
              refine h_take 16 rfl (by kernel_rfl) (rfl : _ = [true, true, true, true, true, true, true, true, true, true, true, true, true, true, true, true, true]) ?_
              refine h_val (v := v143) rfl (fun w' hC => r_assign rfl) (rfl : _ = [_, _, _, _, _, _, _, _, _, _, _, _, _, _, _, _, _, _, _, _, _, _, _, _, _, _, _, _, _, _, _, _, _, _, _, _, _, _, _, _, _, _, _, _, _, _, _, _, _, _, _, _, _, _, _, _, _, _, _, _, _, _, _]) ?_
              refine h_nil (by kernel_rfl) rfl ?_
              replace hS55 := hS55.keep (Kept.all hr48)
              replace hS69 := hS69.keep (Kept.all hr48)
              replace hd67 := hd67.keep (Kept.all hr48)
              refine x_block ?_
              refine x_seq ?_
              refine c_region ?_
              refine s_val (v := (.int .i64 (i : Int))) rfl (r_move rfl) (rfl : _ = [_, _, _, _, _, _, _, _, _, _, _, _, _, _, _, _, _, _, _, _, _, _, _, _, _, _, _, _, _, _, _, _, _, _, _, _, _, _, _, _, _, _, _, _, _, _, _, _, _, _, _, _, _, _, _, _, _, _, _, _, _, _, _]) ?_
              refine s_val (v := (.int .i64 ((i : Int) + 1))) rfl (r_add (c := (i : Int) + 1) rfl rfl (i64_in (by omega) (by omega))) (rfl : _ = [_, _, _, _, _, _, _, _, _, _, _, _, _, _, _, _, _, _, _, _, _, _, _, _, _, _, _, _, _, _, _, _, _, _, _, _, _, _, _, _, _, _, _, _, _, _, _, _, _, _, _, _, _, _, _, _, _, _, _, _, _, _, _]) ?_
              refine s_val (v := (.int .i64 ((i : Int) + 1))) rfl (r_assign rfl) (rfl : _ = [_, _, _, _, _, _, _, _, _, _, _, _, _, _, _, _, _, _, _, _, _, _, _, _, _, _, _, _, _, _, _, _, _, _, _, _, _, _, _, _, _, _, _, _, _, _, _, _, _, _, _, _, _, _, _, _, _, _, _, _, _, _, _]) ?_
              refine s_nil rfl ?_
              refine x_then ?_
              have hle2 := setL_len ((l.take i).map (·.slot))
              rw [← hset] at hle2
              simp only [List.length_map, List.length_take] at hle2
              have hzz : lessN ex.slot (out0.drop k) = 0 := by first | exact lessN_end (by omega) | exact lessN_stop he19 (by assumption)
              have hlk2 : lessN ex.slot out0 = k := by omega
              have hnew : setL ((l.take (i + 1)).map (·.slot)) = ((([] ++ (out0.take k)) ++ [ex.slot]) ++ (out0.drop k)) := by
                rw [setL_snoc hex, ← hset, insL, hlk2]
                rw [if_neg (fun hh => by first | (rw [List.getElem?_eq_none (by omega)] at hh; cases hh) | (rw [he19] at hh; injection hh with hh; exact absurd hh (by assumption)))]
                simp
              refine ⟨_, _, ?_, rfl, (i + 1), ((([] ++ (out0.take k)) ++ [ex.slot]) ++ (out0.drop k)), v143, a71, w144.heap.size, (fun n_ => ([jk9 0, .int .i64 (k : Int), .int .i64 (i : Int), v, .int .i64 (l.length : Int), .bool true, .int .i64 (i : Int), .int .i64 ((i : Int) + 1), .int .i64 (k : Int), out, .int .i64 (out0.length : Int), .bool true, .bool true, out, .int .i64 (k : Int), .pointer (some ⟨a16, o17, none⟩), .int .i64 e15, v, .int .i64 (i : Int), .pointer (some ⟨a25, o26, none⟩), .pointer (some ⟨a25, o26 + 0, none⟩), .int .i64 ex.slot, .bool false, .bool false, jk9 17, jk9 18, .int .i64 (k : Int), out, .int .i64 (out0.length : Int), .bool true, .bool true, undef, undef, undef, undef, undef, undef, undef, undef, undef, undef, .bool true, .slice (some ⟨a71, 0, none⟩) 0 0, out, .int .i64 (k : Int), v54, v127, v, .int .i64 (i : Int), .pointer (some ⟨a58, o59, none⟩), .pointer (some ⟨a58, o59 + 0, none⟩), .int .i64 ex.slot, .slice (some ⟨a113, 0, none⟩) 1 1, v132, out, .int .i64 (k : Int), v68, v143] : List Value).getD n_ undef), rfl, rfl, (by omega), hnew.symm, (by omega), hb10, hO145⟩
              omega
          · skip
            refine s_buildSlice (cs := [.int .i64 ex.slot]) (e := 3) 23 1 _ rfl rfl (by kernel_rfl) ?_
            intro a148 w149 he150 hB151 hc152 hz153
            refine norm (rfl : _ = [_, _, _, _, _, _, _, _, _, _, _, _, _, _, _, _, _, _, _, _, _, _, _, _, _, _, _, _, _, _, _, _, _, _, _, _, _, _, _, _, _, _, _, _, _, _, _, _, _, _, _, _, _, _, _, _, _, _, _, _, _, _, _]) ?_
            have hs154 := hc152.size
            replace hb10 := hb10.chg hc152 (by omega)
            replace hr48 := hr48.chg hc152 (by omega)
            replace hO := hO.chg hc152 (by omega)
            replace hd34 := hd34.chg hc152 (by omega)
            refine s_nil rfl ?_
            refine x_h hr48 ?_
            refine h_one 0 (by kernel_rfl) rfl (rfl : _ = [true, true, true, true, false, true, true, true, true, true, true, false, true, true, true, false, false]) ?_
            refine s_buildSlice (cs := []) (e := 3) 23 0 _ rfl rfl (by kernel_rfl) ?_
            intro a155 w156 he157 hB158 hc159 hz160
            refine norm (rfl : _ = [_, _, _, _, _, _, _, _, _, _, _, _, _, _, _, _, _, _, _, _, _, _, _, _, _, _, _, _, _, _, _, _, _, _, _, _, _, _, _, _, _, _, _, _, _, _, _, _, _, _, _, _, _, _, _, _, _, _, _, _, _, _, _]) ?_
            have hs161 := hc159.size
            replace hb10 := hb10.chg hc159 (by omega)
            replace hr48 := hr48.chg hc159 (by omega)
            replace hO := hO.chg hc159 (by omega)
            replace hd34 := hd34.chg hc159 (by omega)
            replace hB151 := hB151.chg hc159 (by omega)
            refine s_nil rfl ?_
            refine x_h hr48 ?_
            refine h_one 4 (by kernel_rfl) rfl (rfl : _ = [true, true, true, true, true, true, true, true, true, true, true, false, true, true, true, false, false]) ?_
            have hO162 : OwnX kInt 3 0 a155 (a155 + 1) w156 (.slice (some ⟨a155, 0, none⟩) 0 0) [] := OwnX.of_bx (ok := (fun _ => False)) hB158 .nil rfl (by simp [lim]) (by omega) (Nat.le_refl _) (by omega) (by omega) (fun _ hb _ => hb.elim)
            obtain ⟨ad163, c164, ds165, hv166, hF167, had168⟩ := ((hS55.keep (Kept.all hr48))).flat
            refine s_appendX kInt (z := (.int .i64 0)) (bytes := 8) (ys := (out0.take k)) (ok2 := fun _ => False) Try.underlying23 (by kernel_rfl) rfl (by decide) (by decide) (by decide) rfl hO162 hv166 (hF167.any kInt_plain (fun _ => False) _) had168 (fun _ hb _ => hb.elim) (by have hle3 := setL_len ((l.take i).map (·.slot)); rw [← hset] at hle3; simp [lim] at *; omega) ?_
            intro v169 w170 hO171 hc172
            refine norm (rfl : _ = [_, _, _, _, _, _, _, _, _, _, _, _, _, _, _, _, _, _, _, _, _, _, _, _, _, _, _, _, _, _, _, _, _, _, _, _, _, _, _, _, _, _, _, _, _, _, _, _, _, _, _, _, _, _, _, _, _, _, _, _, _, _, _]) ?_
            have hs173 := hc172.size
            replace hb10 := hb10.chg hc172 (by omega)
            replace hr48 := hr48.chg hc172 (by omega)
            replace hO := hO.chg hc172 (by omega)
            replace hd34 := hd34.chg hc172 (by omega)
            replace hB151 := hB151.chg hc172 (by omega)
            refine s_nil rfl ?_
            refine x_h hr48 ?_
            refine h_one 11 (by kernel_rfl) rfl (rfl : _ = [true, true, true, true, true, true, true, true, true, true, true, true, true, true, true, false, false]) ?_
            refine s_appendX kInt (z := (.int .i64 0)) (bytes := 8) (ys := [ex.slot]) (ok2 := fun _ => False) Try.underlying23 (by kernel_rfl) rfl (by decide) (by decide) (by decide) rfl hO171 rfl (flat_one rfl) (had_bx hB151) (fun _ hb _ => hb.elim) (by have hle3 := setL_len ((l.take i).map (·.slot)); rw [← hset] at hle3; simp [lim] at *; omega) ?_
            intro v174 w175 hO176 hc177
            refine norm (rfl : _ = [_, _, _, _, _, _, _, _, _, _, _, _, _, _, _, _, _, _, _, _, _, _, _, _, _, _, _, _, _, _, _, _, _, _, _, _, _, _, _, _, _, _, _, _, _, _, _, _, _, _, _, _, _, _, _, _, _, _, _, _, _, _, _]) ?_
            have hs178 := hc177.size
            replace hb10 := hb10.chg hc177 (by omega)
            replace hr48 := hr48.chg hc177 (by omega)
            replace hO := hO.chg hc177 (by omega)
            replace hd34 := hd34.chg hc177 (by omega)
            refine s_nil rfl ?_
            refine x_h hr48 ?_
            refine h_one 15 (by kernel_rfl) rfl (rfl : _ = [true, true, true, true, true, true, true, true, true, true, true, true, true, true, true, true, false]) ?_
            obtain ⟨ad179, c180, ds181, hv182, hF183, had184⟩ := ((hS69.keep (Kept.all hr48))).flat
            refine s_appendX kInt (z := (.int .i64 0)) (bytes := 8) (ys := (out0.drop k)) (ok2 := fun _ => False) Try.underlying23 (by kernel_rfl) rfl (by decide) (by decide) (by decide) rfl hO176 hv182 (hF183.any kInt_plain (fun _ => False) _) had184 (fun _ hb _ => hb.elim) (by have hle3 := setL_len ((l.take i).map (·.slot)); rw [← hset] at hle3; simp [lim] at *; omega) ?_
            intro v185 w186 hO187 hc188
            refine norm (rfl : _ = [_, _, _, _, _, _, _, _, _, _, _, _, _, _, _, _, _, _, _, _, _, _, _, _, _, _, _, _, _, _, _, _, _, _, _, _, _, _, _, _, _, _, _, _, _, _, _, _, _, _, _, _, _, _, _, _, _, _, _, _, _, _, _]) ?_
            have hs189 := hc188.size
            replace hb10 := hb10.chg hc188 (by omega)
            replace hr48 := hr48.chg hc188 (by omega)
            replace hO := hO.chg hc188 (by omega)
            replace hd34 := hd34.chg hc188 (by omega)
            refine s_nil rfl ?_
            refine x_h hr48 ?_
            refine h_take 16 rfl (by kernel_rfl) (rfl : _ = [true, true, true, true, true, true, true, true, true, true, true, true, true, true, true, true, true]) ?_
            refine h_val (v := v185) rfl (fun w' hC => r_assign rfl) (rfl : _ = [_, _, _, _, _, _, _, _, _, _, _, _, _, _, _, _, _, _, _, _, _, _, _, _, _, _, _, _, _, _, _, _, _, _, _, _, _, _, _, _, _, _, _, _, _, _, _, _, _, _, _, _, _, _, _, _, _, _, _, _, _, _, _]) ?_
            refine h_nil (by kernel_rfl) rfl ?_
            replace hS55 := hS55.keep (Kept.all hr48)
            replace hS69 := hS69.keep (Kept.all hr48)
            replace hd67 := hd67.keep (Kept.all hr48)
            refine x_block ?_
            refine x_seq ?_
            refine c_region ?_
            refine s_val (v := (.int .i64 (i : Int))) rfl (r_move rfl) (rfl : _ = [_, _, _, _, _, _, _, _, _, _, _, _, _, _, _, _, _, _, _, _, _, _, _, _, _, _, _, _, _, _, _, _, _, _, _, _, _, _, _, _, _, _, _, _, _, _, _, _, _, _, _, _, _, _, _, _, _, _, _, _, _, _, _]) ?_
            refine s_val (v := (.int .i64 ((i : Int) + 1))) rfl (r_add (c := (i : Int) + 1) rfl rfl (i64_in (by omega) (by omega))) (rfl : _ = [_, _, _, _, _, _, _, _, _, _, _, _, _, _, _, _, _, _, _, _, _, _, _, _, _, _, _, _, _, _, _, _, _, _, _, _, _, _, _, _, _, _, _, _, _, _, _, _, _, _, _, _, _, _, _, _, _, _, _, _, _, _, _]) ?_
            refine s_val (v := (.int .i64 ((i : Int) + 1))) rfl (r_assign rfl) (rfl : _ = [_, _, _, _, _, _, _, _, _, _, _, _, _, _, _, _, _, _, _, _, _, _, _, _, _, _, _, _, _, _, _, _, _, _, _, _, _, _, _, _, _, _, _, _, _, _, _, _, _, _, _, _, _, _, _, _, _, _, _, _, _, _, _]) ?_
            refine s_nil rfl ?_
            refine x_then ?_
            have hle2 := setL_len ((l.take i).map (·.slot))
            rw [← hset] at hle2
            simp only [List.length_map, List.length_take] at hle2
            have hzz : lessN ex.slot (out0.drop k) = 0 := by first | exact lessN_end (by omega) | exact lessN_stop he19 (by assumption)
            have hlk2 : lessN ex.slot out0 = k := by omega
            have hnew : setL ((l.take (i + 1)).map (·.slot)) = ((([] ++ (out0.take k)) ++ [ex.slot]) ++ (out0.drop k)) := by
              rw [setL_snoc hex, ← hset, insL, hlk2]
              rw [if_neg (fun hh => by first | (rw [List.getElem?_eq_none (by omega)] at hh; cases hh) | (rw [he19] at hh; injection hh with hh; exact absurd hh (by assumption)))]
              simp
            refine ⟨_, _, ?_, rfl, (i + 1), ((([] ++ (out0.take k)) ++ [ex.slot]) ++ (out0.drop k)), v185, a155, w186.heap.size, (fun n_ => ([jk9 0, .int .i64 (k : Int), .int .i64 (i : Int), v, .int .i64 (l.length : Int), .bool true, .int .i64 (i : Int), .int .i64 ((i : Int) + 1), .int .i64 (k : Int), out, .int .i64 (out0.length : Int), .bool true, .bool true, out, .int .i64 (k : Int), .pointer (some ⟨a16, o17, none⟩), .int .i64 e15, v, .int .i64 (i : Int), .pointer (some ⟨a25, o26, none⟩), .pointer (some ⟨a25, o26 + 0, none⟩), .int .i64 ex.slot, .bool false, .bool false, jk9 17, jk9 18, .int .i64 (k : Int), out, .int .i64 (out0.length : Int), .bool true, .bool true, undef, undef, undef, undef, undef, undef, undef, undef, undef, undef, .bool true, .slice (some ⟨a155, 0, none⟩) 0 0, out, .int .i64 (k : Int), v54, v169, v, .int .i64 (i : Int), .pointer (some ⟨a58, o59, none⟩), .pointer (some ⟨a58, o59 + 0, none⟩), .int .i64 ex.slot, .slice (some ⟨a148, 0, none⟩) 1 1, v174, out, .int .i64 (k : Int), v68, v185] : List Value).getD n_ undef), rfl, rfl, (by omega), hnew.symm, (by omega), hb10, hO187⟩
            omega
        | false =>
          replace hb40 := bf hb40
          refine q_val (v := out) (wan_t (dj := 34) rfl rfl) (fun w' hC => r_move rfl) (rfl : _ = [_, _, _, _, _, _, _, _, _, _, _, _, _, _, _, _, _, _, _, _, _, _, _, _, _, _, _, _, _, _, _, _, _, _, _, _, _, _, _, _, _, _, _, _, _, _, _, _, _, _, _, _, _, _, _, _, _, _, _, _, _, _, _]) ?_
          refine q_val (v := (.int .i64 (k : Int))) (wan_t (dj := 34) rfl rfl) (fun w' hC => r_move rfl) (rfl : _ = [_, _, _, _, _, _, _, _, _, _, _, _, _, _, _, _, _, _, _, _, _, _, _, _, _, _, _, _, _, _, _, _, _, _, _, _, _, _, _, _, _, _, _, _, _, _, _, _, _, _, _, _, _, _, _, _, _, _, _, _, _, _, _]) ?_
          obtain ⟨e190, a191, o192, c193, he194, hc195, hr196, hk197, hi198⟩ := hO.sl.idx (j := (k : Int)) (by omega) (by omega)
          rw [Int.toNat_natCast] at he194
          rw [he19] at he194
          injection he194 with he194
          subst he194
          obtain rfl : c193 = [.int .i64 e15] := hc195
          refine q_val (wan_t (dj := 34) rfl rfl) (fun w' hC => hi198 _ _ _ _ _ _ _ (by kernel_rfl) rfl rfl) (rfl : _ = [_, _, _, _, _, _, _, _, _, _, _, _, _, _, _, _, _, _, _, _, _, _, _, _, _, _, _, _, _, _, _, _, _, _, _, _, _, _, _, _, _, _, _, _, _, _, _, _, _, _, _, _, _, _, _, _, _, _, _, _, _, _, _]) ?_
          refine q_val (v := (.int .i64 e15)) (wan_t (dj := 34) rfl rfl) (fun w' hC => r_load rfl (Ld.one Try.underlying3 rfl ((range_below hr196 hC) 0 _ rfl))) (rfl : _ = [_, _, _, _, _, _, _, _, _, _, _, _, _, _, _, _, _, _, _, _, _, _, _, _, _, _, _, _, _, _, _, _, _, _, _, _, _, _, _, _, _, _, _, _, _, _, _, _, _, _, _, _, _, _, _, _, _, _, _, _, _, _, _]) ?_
          refine q_val (v := v) (wan_t (dj := 34) rfl rfl) (fun w' hC => r_move rfl) (rfl : _ = [_, _, _, _, _, _, _, _, _, _, _, _, _, _, _, _, _, _, _, _, _, _, _, _, _, _, _, _, _, _, _, _, _, _, _, _, _, _, _, _, _, _, _, _, _, _, _, _, _, _, _, _, _, _, _, _, _, _, _, _, _, _, _]) ?_
          refine q_val (v := (.int .i64 (i : Int))) (wan_t (dj := 34) rfl rfl) (fun w' hC => r_move rfl) (rfl : _ = [_, _, _, _, _, _, _, _, _, _, _, _, _, _, _, _, _, _, _, _, _, _, _, _, _, _, _, _, _, _, _, _, _, _, _, _, _, _, _, _, _, _, _, _, _, _, _, _, _, _, _, _, _, _, _, _, _, _, _, _, _, _, _]) ?_
          obtain ⟨e199, a200, o201, c202, he203, hc204, hr205, hk206, hi207⟩ := (hS.at_ hb10).idx (j := (i : Int)) (by omega) (by omega)
          rw [Int.toNat_natCast] at he203
          rw [hex] at he203
          injection he203 with he203
          subst he203
          obtain ⟨d208, rfl, hd209⟩ := kVot_cells.1 hc204
          refine q_val (wan_t (dj := 34) rfl rfl) (fun w' hC => hi207 _ _ _ _ _ _ _ (by kernel_rfl) rfl rfl) (rfl : _ = [_, _, _, _, _, _, _, _, _, _, _, _, _, _, _, _, _, _, _, _, _, _, _, _, _, _, _, _, _, _, _, _, _, _, _, _, _, _, _, _, _, _, _, _, _, _, _, _, _, _, _, _, _, _, _, _, _, _, _, _, _, _, _]) ?_
          refine q_val (v := (.pointer (some ⟨a200, o201 + 0, none⟩))) (wan_t (dj := 34) rfl rfl) (fun w' hC => r_field (k := 0) (o := o201) (by kernel_rfl) rfl) (rfl : _ = [_, _, _, _, _, _, _, _, _, _, _, _, _, _, _, _, _, _, _, _, _, _, _, _, _, _, _, _, _, _, _, _, _, _, _, _, _, _, _, _, _, _, _, _, _, _, _, _, _, _, _, _, _, _, _, _, _, _, _, _, _, _, _]) ?_
          refine q_val (v := (.int .i64 ex.slot)) (wan_t (dj := 34) rfl rfl) (fun w' hC => r_load rfl (Ld.one Try.underlying3 rfl ((range_below hr205 hC) 0 _ rfl))) (rfl : _ = [_, _, _, _, _, _, _, _, _, _, _, _, _, _, _, _, _, _, _, _, _, _, _, _, _, _, _, _, _, _, _, _, _, _, _, _, _, _, _, _, _, _, _, _, _, _, _, _, _, _, _, _, _, _, _, _, _, _, _, _, _, _, _]) ?_
          refine q_bool (p := (e15 ≠ ex.slot : Prop)) (wan_t (dj := 34) rfl rfl) (fun w' hC => r_nei rfl rfl) nei_iff ?_
          intro b210 hb210
          refine q_norm (rfl : _ = [_, _, _, _, _, _, _, _, _, _, _, _, _, _, _, _, _, _, _, _, _, _, _, _, _, _, _, _, _, _, _, _, _, _, _, _, _, _, _, _, _, _, _, _, _, _, _, _, _, _, _, _, _, _, _, _, _, _, _, _, _, _, _]) ?_
          refine q_val (v := (.bool b210)) rfl (fun w' hC => r_pick rfl rfl) (rfl : _ = [_, _, _, _, _, _, _, _, _, _, _, _, _, _, _, _, _, _, _, _, _, _, _, _, _, _, _, _, _, _, _, _, _, _, _, _, _, _, _, _, _, _, _, _, _, _, _, _, _, _, _, _, _, _, _, _, _, _, _, _, _, _, _]) ?_
          refine q_nil rfl ?_
          intro w211 hq212
          have hc213 := Chg.of_bel hq212
          have hs214 := hc213.size
          replace hb10 := hb10.chg hc213 (by omega)
          replace hO := hO.chg hc213 (by omega)
          replace hd34 := hd34.chg hc213 (by omega)
          replace hd209 := hd209.chg hc213 (by omega)
          refine x_seq ?_
          cases b210 with
          | true =>
            replace hb210 := bt hb210
            refine c_cond rfl (fun _ => ?_) (fun hh => by cases hh)
            refine c_held (by kernel_rfl) (by kernel_rfl) rfl rfl ?_
            intro w215 hb216 hz217
            have hc219 := Chg.of_bel hb216
            have hs220 := hc219.size
            replace hb10 := hb10.chg hc219 (by omega)
            replace hO := hO.chg hc219 (by omega)
            replace hd34 := hd34.chg hc219 (by omega)
            replace hd209 := hd209.chg hc219 (by omega)
            have hr218 := Bel.refl w215
            have hbz221 := hb10
            have hOz222 := hO
            have hdz223 := hd34
            have hdz224 := hd209
            refine h_take 1 rfl (by kernel_rfl) (rfl : _ = [false, true, false, false, false, false, false, false, false, false, false, false, false, false, false, false, false]) ?_
            refine h_val (v := out) rfl (fun w' hC => r_move rfl) (rfl : _ = [_, _, _, _, _, _, _, _, _, _, _, _, _, _, _, _, _, _, _, _, _, _, _, _, _, _, _, _, _, _, _, _, _, _, _, _, _, _, _, _, _, _, _, _, _, _, _, _, _, _, _, _, _, _, _, _, _, _, _, _, _, _, _]) ?_
            refine h_take 2 rfl (by kernel_rfl) (rfl : _ = [false, true, true, false, false, false, false, false, false, false, false, false, false, false, false, false, false]) ?_
            refine h_val (v := (.int .i64 (k : Int))) rfl (fun w' hC => r_move rfl) (rfl : _ = [_, _, _, _, _, _, _, _, _, _, _, _, _, _, _, _, _, _, _, _, _, _, _, _, _, _, _, _, _, _, _, _, _, _, _, _, _, _, _, _, _, _, _, _, _, _, _, _, _, _, _, _, _, _, _, _, _, _, _, _, _, _, _]) ?_
            refine h_take 3 rfl (by kernel_rfl) (rfl : _ = [false, true, true, true, false, false, false, false, false, false, false, false, false, false, false, false, false]) ?_
            obtain ⟨v225, hS226, hk227⟩ := ((hOz222.sl)).take (i := (k : Int)) (by omega) (by omega)
            rw [Int.toNat_natCast] at hS226
            refine h_val rfl (fun w' hC => hk227 _ _ _ _ _ _ _ (by kernel_rfl) rfl rfl) (rfl : _ = [_, _, _, _, _, _, _, _, _, _, _, _, _, _, _, _, _, _, _, _, _, _, _, _, _, _, _, _, _, _, _, _, _, _, _, _, _, _, _, _, _, _, _, _, _, _, _, _, _, _, _, _, _, _, _, _, _, _, _, _, _, _, _]) ?_
            refine h_take 5 rfl (by kernel_rfl) (rfl : _ = [false, true, true, true, false, true, false, false, false, false, false, false, false, false, false, false, false]) ?_
            refine h_val (v := v) rfl (fun w' hC => r_move rfl) (rfl : _ = [_, _, _, _, _, _, _, _, _, _, _, _, _, _, _, _, _, _, _, _, _, _, _, _, _, _, _, _, _, _, _, _, _, _, _, _, _, _, _, _, _, _, _, _, _, _, _, _, _, _, _, _, _, _, _, _, _, _, _, _, _, _, _]) ?_
            refine h_take 6 rfl (by kernel_rfl) (rfl : _ = [false, true, true, true, false, true, true, false, false, false, false, false, false, false, false, false, false]) ?_
            refine h_val (v := (.int .i64 (i : Int))) rfl (fun w' hC => r_move rfl) (rfl : _ = [_, _, _, _, _, _, _, _, _, _, _, _, _, _, _, _, _, _, _, _, _, _, _, _, _, _, _, _, _, _, _, _, _, _, _, _, _, _, _, _, _, _, _, _, _, _, _, _, _, _, _, _, _, _, _, _, _, _, _, _, _, _, _]) ?_
            refine h_take 7 rfl (by kernel_rfl) (rfl : _ = [false, true, true, true, false, true, true, true, false, false, false, false, false, false, false, false, false]) ?_
            obtain ⟨e228, a229, o230, c231, he232, hc233, hr234, hk235, hi236⟩ := ((hS.at_ hbz221)).idx (j := (i : Int)) (by omega) (by omega)
            rw [Int.toNat_natCast] at he232
            rw [hex] at he232
            injection he232 with he232
            subst he232
            obtain ⟨d237, rfl, hd238⟩ := kVot_cells.1 hc233
            refine h_val rfl (fun w' hC => hi236 _ _ _ _ _ _ _ (by kernel_rfl) rfl rfl) (rfl : _ = [_, _, _, _, _, _, _, _, _, _, _, _, _, _, _, _, _, _, _, _, _, _, _, _, _, _, _, _, _, _, _, _, _, _, _, _, _, _, _, _, _, _, _, _, _, _, _, _, _, _, _, _, _, _, _, _, _, _, _, _, _, _, _]) ?_
            refine h_take 8 rfl (by kernel_rfl) (rfl : _ = [false, true, true, true, false, true, true, true, true, false, false, false, false, false, false, false, false]) ?_
            refine h_val (v := (.pointer (some ⟨a229, o230 + 0, none⟩))) rfl (fun w' hC => r_field (k := 0) (o := o230) (by kernel_rfl) rfl) (rfl : _ = [_, _, _, _, _, _, _, _, _, _, _, _, _, _, _, _, _, _, _, _, _, _, _, _, _, _, _, _, _, _, _, _, _, _, _, _, _, _, _, _, _, _, _, _, _, _, _, _, _, _, _, _, _, _, _, _, _, _, _, _, _, _, _]) ?_
            refine h_take 9 rfl (by kernel_rfl) (rfl : _ = [false, true, true, true, false, true, true, true, true, true, false, false, false, false, false, false, false]) ?_
            refine h_val (v := (.int .i64 ex.slot)) rfl (fun w' hC => r_load rfl (Ld.one Try.underlying3 rfl ((range_below hr234 hC) 0 _ rfl))) (rfl : _ = [_, _, _, _, _, _, _, _, _, _, _, _, _, _, _, _, _, _, _, _, _, _, _, _, _, _, _, _, _, _, _, _, _, _, _, _, _, _, _, _, _, _, _, _, _, _, _, _, _, _, _, _, _, _, _, _, _, _, _, _, _, _, _]) ?_
            refine h_take 12 rfl (by kernel_rfl) (rfl : _ = [false, true, true, true, false, true, true, true, true, true, false, false, true, false, false, false, false]) ?_
            refine h_val (v := out) rfl (fun w' hC => r_move rfl) (rfl : _ = [_, _, _, _, _, _, _, _, _, _, _, _, _, _, _, _, _, _, _, _, _, _, _, _, _, _, _, _, _, _, _, _, _, _, _, _, _, _, _, _, _, _, _, _, _, _, _, _, _, _, _, _, _, _, _, _, _, _, _, _, _, _, _]) ?_
            refine h_take 13 rfl (by kernel_rfl) (rfl : _ = [false, true, true, true, false, true, true, true, true, true, false, false, true, true, false, false, false]) ?_
            refine h_val (v := (.int .i64 (k : Int))) rfl (fun w' hC => r_move rfl) (rfl : _ = [_, _, _, _, _, _, _, _, _, _, _, _, _, _, _, _, _, _, _, _, _, _, _, _, _, _, _, _, _, _, _, _, _, _, _, _, _, _, _, _, _, _, _, _, _, _, _, _, _, _, _, _, _, _, _, _, _, _, _, _, _, _, _]) ?_
            refine h_take 14 rfl (by kernel_rfl) (rfl : _ = [false, true, true, true, false, true, true, true, true, true, false, false, true, true, true, false, false]) ?_
            obtain ⟨v239, hS240, hk241⟩ := ((hOz222.sl)).drop (i := (k : Int)) (by omega) (by omega)
            rw [Int.toNat_natCast] at hS240
            refine h_val rfl (fun w' hC => hk241 _ _ _ _ _ _ _ (by kernel_rfl) rfl rfl) (rfl : _ = [_, _, _, _, _, _, _, _, _, _, _, _, _, _, _, _, _, _, _, _, _, _, _, _, _, _, _, _, _, _, _, _, _, _, _, _, _, _, _, _, _, _, _, _, _, _, _, _, _, _, _, _, _, _, _, _, _, _, _, _, _, _, _]) ?_
            refine h_two 0 10 (by kernel_rfl) rfl rfl (rfl : _ = [true, true, true, true, false, true, true, true, true, true, false, false, true, true, true, false, false]) (rfl : _ = [false, true, true, true, false, true, true, true, true, true, true, false, true, true, true, false, false]) ?_ ?_
            · skip
              refine s_buildSlice (cs := []) (e := 3) 23 0 _ rfl rfl (by kernel_rfl) ?_
              intro a242 w243 he244 hB245 hc246 hz247
              refine norm (rfl : _ = [_, _, _, _, _, _, _, _, _, _, _, _, _, _, _, _, _, _, _, _, _, _, _, _, _, _, _, _, _, _, _, _, _, _, _, _, _, _, _, _, _, _, _, _, _, _, _, _, _, _, _, _, _, _, _, _, _, _, _, _, _, _, _]) ?_
              have hs248 := hc246.size
              replace hb10 := hb10.chg hc246 (by omega)
              replace hr218 := hr218.chg hc246 (by omega)
              replace hO := hO.chg hc246 (by omega)
              replace hd34 := hd34.chg hc246 (by omega)
              replace hd209 := hd209.chg hc246 (by omega)
              refine s_nil rfl ?_
              refine x_h hr218 ?_
              refine h_two 4 10 (by kernel_rfl) rfl rfl (rfl : _ = [true, true, true, true, true, true, true, true, true, true, false, false, true, true, true, false, false]) (rfl : _ = [true, true, true, true, false, true, true, true, true, true, true, false, true, true, true, false, false]) ?_ ?_
              · skip
                have hO249 : OwnX kInt 3 0 a242 (a242 + 1) w243 (.slice (some ⟨a242, 0, none⟩) 0 0) [] := OwnX.of_bx (ok := (fun _ => False)) hB245 .nil rfl (by simp [lim]) (by omega) (Nat.le_refl _) (by omega) (by omega) (fun _ hb _ => hb.elim)
                obtain ⟨ad250, c251, ds252, hv253, hF254, had255⟩ := ((hS226.keep (Kept.all hr218))).flat
                refine s_appendX kInt (z := (.int .i64 0)) (bytes := 8) (ys := (out0.take k)) (ok2 := fun _ => False) Try.underlying23 (by kernel_rfl) rfl (by decide) (by decide) (by decide) rfl hO249 hv253 (hF254.any kInt_plain (fun _ => False) _) had255 (fun _ hb _ => hb.elim) (by have hle3 := setL_len ((l.take i).map (·.slot)); rw [← hset] at hle3; simp [lim] at *; omega) ?_
                intro v256 w257 hO258 hc259
                refine norm (rfl : _ = [_, _, _, _, _, _, _, _, _, _, _, _, _, _, _, _, _, _, _, _, _, _, _, _, _, _, _, _, _, _, _, _, _, _, _, _, _, _, _, _, _, _, _, _, _, _, _, _, _, _, _, _, _, _, _, _, _, _, _, _, _, _, _]) ?_
                have hs260 := hc259.size
                replace hb10 := hb10.chg hc259 (by omega)
                replace hr218 := hr218.chg hc259 (by omega)
                replace hO := hO.chg hc259 (by omega)
                replace hd34 := hd34.chg hc259 (by omega)
                replace hd209 := hd209.chg hc259 (by omega)
                refine s_nil rfl ?_
                refine x_h hr218 ?_
                refine h_one 10 (by kernel_rfl) rfl (rfl : _ = [true, true, true, true, true, true, true, true, true, true, true, false, true, true, true, false, false]) ?_
                refine s_buildSlice (cs := [.int .i64 ex.slot]) (e := 3) 23 1 _ rfl rfl (by kernel_rfl) ?_
                intro a261 w262 he263 hB264 hc265 hz266
                refine norm (rfl : _ = [_, _, _, _, _, _, _, _, _, _, _, _, _, _, _, _, _, _, _, _, _, _, _, _, _, _, _, _, _, _, _, _, _, _, _, _, _, _, _, _, _, _, _, _, _, _, _, _, _, _, _, _, _, _, _, _, _, _, _, _, _, _, _]) ?_
                have hs267 := hc265.size
                replace hb10 := hb10.chg hc265 (by omega)
                replace hr218 := hr218.chg hc265 (by omega)
                replace hO := hO.chg hc265 (by omega)
                replace hd34 := hd34.chg hc265 (by omega)
                replace hd209 := hd209.chg hc265 (by omega)
                replace hO258 := hO258.chg hc265 (by omega)
                refine s_nil rfl ?_
                refine x_h hr218 ?_
                refine h_one 11 (by kernel_rfl) rfl (rfl : _ = [true, true, true, true, true, true, true, true, true, true, true, true, true, true, true, false, false]) ?_
                refine s_appendX kInt (z := (.int .i64 0)) (bytes := 8) (ys := [ex.slot]) (ok2 := fun _ => False) Try.underlying23 (by kernel_rfl) rfl (by decide) (by decide) (by decide) rfl hO258 rfl (flat_one rfl) (had_bx hB264) (fun _ hb _ => hb.elim) (by have hle3 := setL_len ((l.take i).map (·.slot)); rw [← hset] at hle3; simp [lim] at *; omega) ?_
                intro v268 w269 hO270 hc271
                refine norm (rfl : _ = [_, _, _, _, _, _, _, _, _, _, _, _, _, _, _, _, _, _, _, _, _, _, _, _, _, _, _, _, _, _, _, _, _, _, _, _, _, _, _, _, _, _, _, _, _, _, _, _, _, _, _, _, _, _, _, _, _, _, _, _, _, _, _]) ?_
                have hs272 := hc271.size
                replace hb10 := hb10.chg hc271 (by omega)
                replace hr218 := hr218.chg hc271 (by omega)
                replace hO := hO.chg hc271 (by omega)
                replace hd34 := hd34.chg hc271 (by omega)
                replace hd209 := hd209.chg hc271 (by omega)
                refine s_nil rfl ?_
                refine x_h hr218 ?_
                refine h_one 15 (by kernel_rfl) rfl (rfl : _ = [true, true, true, true, true, true, true, true, true, true, true, true, true, true, true, true, false]) ?_
                obtain ⟨ad273, c274, ds275, hv276, hF277, had278⟩ := ((hS240.keep (Kept.all hr218))).flat
                refine s_appendX kInt (z := (.int .i64 0)) (bytes := 8) (ys := (out0.drop k)) (ok2 := fun _ => False) Try.underlying23 (by kernel_rfl) rfl (by decide) (by decide) (by decide) rfl hO270 hv276 (hF277.any kInt_plain (fun _ => False) _) had278 (fun _ hb _ => hb.elim) (by have hle3 := setL_len ((l.take i).map (·.slot)); rw [← hset] at hle3; simp [lim] at *; omega) ?_
                intro v279 w280 hO281 hc282
                refine norm (rfl : _ = [_, _, _, _, _, _, _, _, _, _, _, _, _, _, _, _, _, _, _, _, _, _, _, _, _, _, _, _, _, _, _, _, _, _, _, _, _, _, _, _, _, _, _, _, _, _, _, _, _, _, _, _, _, _, _, _, _, _, _, _, _, _, _]) ?_
                have hs283 := hc282.size
                replace hb10 := hb10.chg hc282 (by omega)
                replace hr218 := hr218.chg hc282 (by omega)
                replace hO := hO.chg hc282 (by omega)
                replace hd34 := hd34.chg hc282 (by omega)
                replace hd209 := hd209.chg hc282 (by omega)
                refine s_nil rfl ?_
                refine x_h hr218 ?_
                refine h_take 16 rfl (by kernel_rfl) (rfl : _ = [true, true, true, true, true, true, true, true, true, true, true, true, true, true, true, true, true]) ?_
                refine h_val (v := v279) rfl (fun w' hC => r_assign rfl) (rfl : _ = [_, _, _, _, _, _, _, _, _, _, _, _, _, _, _, _, _, _, _, _, _, _, _, _, _, _, _, _, _, _, _, _, _, _, _, _, _, _, _, _, _, _, _, _, _, _, _, _, _, _, _, _, _, _, _, _, _, _, _, _, _, _, _]) ?_
                refine h_nil (by kernel_rfl) rfl ?_
                replace hS226 := hS226.keep (Kept.all hr218)
                replace hS240 := hS240.keep (Kept.all hr218)
                replace hd238 := hd238.keep (Kept.all hr218)
                refine x_block ?_
                refine x_seq ?_
                refine c_region ?_
                refine s_val (v := (.int .i64 (i : Int))) rfl (r_move rfl) (rfl : _ = [_, _, _, _, _, _, _, _, _, _, _, _, _, _, _, _, _, _, _, _, _, _, _, _, _, _, _, _, _, _, _, _, _, _, _, _, _, _, _, _, _, _, _, _, _, _, _, _, _, _, _, _, _, _, _, _, _, _, _, _, _, _, _]) ?_
                refine s_val (v := (.int .i64 ((i : Int) + 1))) rfl (r_add (c := (i : Int) + 1) rfl rfl (i64_in (by omega) (by omega))) (rfl : _ = [_, _, _, _, _, _, _, _, _, _, _, _, _, _, _, _, _, _, _, _, _, _, _, _, _, _, _, _, _, _, _, _, _, _, _, _, _, _, _, _, _, _, _, _, _, _, _, _, _, _, _, _, _, _, _, _, _, _, _, _, _, _, _]) ?_
                refine s_val (v := (.int .i64 ((i : Int) + 1))) rfl (r_assign rfl) (rfl : _ = [_, _, _, _, _, _, _, _, _, _, _, _, _, _, _, _, _, _, _, _, _, _, _, _, _, _, _, _, _, _, _, _, _, _, _, _, _, _, _, _, _, _, _, _, _, _, _, _, _, _, _, _, _, _, _, _, _, _, _, _, _, _, _]) ?_
                refine s_nil rfl ?_
                refine x_then ?_
                have hle2 := setL_len ((l.take i).map (·.slot))
                rw [← hset] at hle2
                simp only [List.length_map, List.length_take] at hle2
                have hzz : lessN ex.slot (out0.drop k) = 0 := by first | exact lessN_end (by omega) | exact lessN_stop he19 (by assumption)
                have hlk2 : lessN ex.slot out0 = k := by omega
                have hnew : setL ((l.take (i + 1)).map (·.slot)) = ((([] ++ (out0.take k)) ++ [ex.slot]) ++ (out0.drop k)) := by
                  rw [setL_snoc hex, ← hset, insL, hlk2]
                  rw [if_neg (fun hh => by first | (rw [List.getElem?_eq_none (by omega)] at hh; cases hh) | (rw [he19] at hh; injection hh with hh; exact absurd hh (by assumption)))]
                  simp
                refine ⟨_, _, ?_, rfl, (i + 1), ((([] ++ (out0.take k)) ++ [ex.slot]) ++ (out0.drop k)), v279, a242, w280.heap.size, (fun n_ => ([jk9 0, .int .i64 (k : Int), .int .i64 (i : Int), v, .int .i64 (l.length : Int), .bool true, .int .i64 (i : Int), .int .i64 ((i : Int) + 1), .int .i64 (k : Int), out, .int .i64 (out0.length : Int), .bool true, .bool true, out, .int .i64 (k : Int), .pointer (some ⟨a16, o17, none⟩), .int .i64 e15, v, .int .i64 (i : Int), .pointer (some ⟨a25, o26, none⟩), .pointer (some ⟨a25, o26 + 0, none⟩), .int .i64 ex.slot, .bool false, .bool false, jk9 17, jk9 18, .int .i64 (k : Int), out, .int .i64 (out0.length : Int), .bool false, .bool false, out, .int .i64 (k : Int), .pointer (some ⟨a191, o192, none⟩), .int .i64 e15, v, .int .i64 (i : Int), .pointer (some ⟨a200, o201, none⟩), .pointer (some ⟨a200, o201 + 0, none⟩), .int .i64 ex.slot, .bool true, .bool true, .slice (some ⟨a242, 0, none⟩) 0 0, out, .int .i64 (k : Int), v225, v256, v, .int .i64 (i : Int), .pointer (some ⟨a229, o230, none⟩), .pointer (some ⟨a229, o230 + 0, none⟩), .int .i64 ex.slot, .slice (some ⟨a261, 0, none⟩) 1 1, v268, out, .int .i64 (k : Int), v239, v279] : List Value).getD n_ undef), rfl, rfl, (by omega), hnew.symm, (by omega), hb10, hO281⟩
                omega
              · skip
                refine s_buildSlice (cs := [.int .i64 ex.slot]) (e := 3) 23 1 _ rfl rfl (by kernel_rfl) ?_
                intro a284 w285 he286 hB287 hc288 hz289
                refine norm (rfl : _ = [_, _, _, _, _, _, _, _, _, _, _, _, _, _, _, _, _, _, _, _, _, _, _, _, _, _, _, _, _, _, _, _, _, _, _, _, _, _, _, _, _, _, _, _, _, _, _, _, _, _, _, _, _, _, _, _, _, _, _, _, _, _, _]) ?_
                have hs290 := hc288.size
                replace hb10 := hb10.chg hc288 (by omega)
                replace hr218 := hr218.chg hc288 (by omega)
                replace hO := hO.chg hc288 (by omega)
                replace hd34 := hd34.chg hc288 (by omega)
                replace hd209 := hd209.chg hc288 (by omega)
                replace hB245 := hB245.chg hc288 (by omega)
                refine s_nil rfl ?_
                refine x_h hr218 ?_
                refine h_one 4 (by kernel_rfl) rfl (rfl : _ = [true, true, true, true, true, true, true, true, true, true, true, false, true, true, true, false, false]) ?_
                have hO291 : OwnX kInt 3 0 a242 (a242 + 1) w285 (.slice (some ⟨a242, 0, none⟩) 0 0) [] := OwnX.of_bx (ok := (fun _ => False)) hB245 .nil rfl (by simp [lim]) (by omega) (Nat.le_refl _) (by omega) (by omega) (fun _ hb _ => hb.elim)
                obtain ⟨ad292, c293, ds294, hv295, hF296, had297⟩ := ((hS226.keep (Kept.all hr218))).flat
                refine s_appendX kInt (z := (.int .i64 0)) (bytes := 8) (ys := (out0.take k)) (ok2 := fun _ => False) Try.underlying23 (by kernel_rfl) rfl (by decide) (by decide) (by decide) rfl hO291 hv295 (hF296.any kInt_plain (fun _ => False) _) had297 (fun _ hb _ => hb.elim) (by have hle3 := setL_len ((l.take i).map (·.slot)); rw [← hset] at hle3; simp [lim] at *; omega) ?_
                intro v298 w299 hO300 hc301
                refine norm (rfl : _ = [_, _, _, _, _, _, _, _, _, _, _, _, _, _, _, _, _, _, _, _, _, _, _, _, _, _, _, _, _, _, _, _, _, _, _, _, _, _, _, _, _, _, _, _, _, _, _, _, _, _, _, _, _, _, _, _, _, _, _, _, _, _, _]) ?_
                have hs302 := hc301.size
                replace hb10 := hb10.chg hc301 (by omega)
                replace hr218 := hr218.chg hc301 (by omega)
                replace hO := hO.chg hc301 (by omega)
                replace hd34 := hd34.chg hc301 (by omega)
                replace hd209 := hd209.chg hc301 (by omega)
                replace hB287 := hB287.chg hc301 (by omega)
                refine s_nil rfl ?_
                refine x_h hr218 ?_
                refine h_one 11 (by kernel_rfl) rfl (rfl : _ = [true, true, true, true, true, true, true, true, true, true, true, true, true, true, true, false, false]) ?_
                refine s_appendX kInt (z := (.int .i64 0)) (bytes := 8) (ys := [ex.slot]) (ok2 := fun _ => False) Try.underlying23 (by kernel_rfl) rfl (by decide) (by decide) (by decide) rfl hO300 rfl (flat_one rfl) (had_bx hB287) (fun _ hb _ => hb.elim) (by have hle3 := setL_len ((l.take i).map (·.slot)); rw [← hset] at hle3; simp [lim] at *; omega) ?_
                intro v303 w304 hO305 hc306
                refine norm (rfl : _ = [_, _, _, _, _, _, _, _, _, _, _, _, _, _, _, _, _, _, _, _, _, _, _, _, _, _, _, _, _, _, _, _, _, _, _, _, _, _, _, _, _, _, _, _, _, _, _, _, _, _, _, _, _, _, _, _, _, _, _, _, _, _, _]) ?_
                have hs307 := hc306.size
                replace hb10 := hb10.chg hc306 (by omega)
                replace hr218 := hr218.chg hc306 (by omega)
                replace hO := hO.chg hc306 (by omega)
                replace hd34 := hd34.chg hc306 (by omega)
                replace hd209 := hd209.chg hc306 (by omega)
                refine s_nil rfl ?_
                refine x_h hr218 ?_
                refine h_one 15 (by kernel_rfl) rfl (rfl : _ = [true, true, true, true, true, true, true, true, true, true, true, true, true, true, true, true, false]) ?_
                obtain ⟨ad308, c309, ds310, hv311, hF312, had313⟩ := ((hS240.keep (Kept.all hr218))).flat
                refine s_appendX kInt (z := (.int .i64 0)) (bytes := 8) (ys := (out0.drop k)) (ok2 := fun _ => False) Try.underlying23 (by kernel_rfl) rfl (by decide) (by decide) (by decide) rfl hO305 hv311 (hF312.any kInt_plain (fun _ => False) _) had313 (fun _ hb _ => hb.elim) (by have hle3 := setL_len ((l.take i).map (·.slot)); rw [← hset] at hle3; simp [lim] at *; omega) ?_
                intro v314 w315 hO316 hc317
                refine norm (rfl : _ = [_, _, _, _, _, _, _, _, _, _, _, _, _, _, _, _, _, _, _, _, _, _, _, _, _, _, _, _, _, _, _, _, _, _, _, _, _, _, _, _, _, _, _, _, _, _, _, _, _, _, _, _, _, _, _, _, _, _, _, _, _, _, _]) ?_
                have hs318 := hc317.size
                replace hb10 := hb10.chg hc317 (by omega)
                replace hr218 := hr218.chg hc317 (by omega)
                replace hO := hO.chg hc317 (by omega)
                replace hd34 := hd34.chg hc317 (by omega)
                replace hd209 := hd209.chg hc317 (by omega)
                refine s_nil rfl ?_
                refine x_h hr218 ?_
                refine h_take 16 rfl (by kernel_rfl) (rfl : _ = [true, true, true, true, true, true, true, true, true, true, true, true, true, true, true, true, true]) ?_
                refine h_val (v := v314) rfl (fun w' hC => r_assign rfl) (rfl : _ = [_, _, _, _, _, _, _, _, _, _, _, _, _, _, _, _, _, _, _, _, _, _, _, _, _, _, _, _, _, _, _, _, _, _, _, _, _, _, _, _, _, _, _, _, _, _, _, _, _, _, _, _, _, _, _, _, _, _, _, _, _, _, _]) ?_
                refine h_nil (by kernel_rfl) rfl ?_
                replace hS226 := hS226.keep (Kept.all hr218)
                replace hS240 := hS240.keep (Kept.all hr218)
                replace hd238 := hd238.keep (Kept.all hr218)
                refine x_block ?_
                refine x_seq ?_
                refine c_region ?_
                refine s_val (v := (.int .i64 (i : Int))) rfl (r_move rfl) (rfl : _ = [_, _, _, _, _, _, _, _, _, _, _, _, _, _, _, _, _, _, _, _, _, _, _, _, _, _, _, _, _, _, _, _, _, _, _, _, _, _, _, _, _, _, _, _, _, _, _, _, _, _, _, _, _, _, _, _, _, _, _, _, _, _, _]) ?_
                refine s_val (v := (.int .i64 ((i : Int) + 1))) rfl (r_add (c := (i : Int) + 1) rfl rfl (i64_in (by omega) (by omega))) (rfl : _ = [_, _, _, _, _, _, _, _, _, _, _, _, _, _, _, _, _, _, _, _, _, _, _, _, _, _, _, _, _, _, _, _, _, _, _, _, _, _, _, _, _, _, _, _, _, _, _, _, _, _, _, _, _, _, _, _, _, _, _, _, _, _, _]) ?_
                refine s_val (v := (.int .i64 ((i : Int) + 1))) rfl (r_assign rfl) (rfl : _ = [_, _, _, _, _, _, _, _, _, _, _, _, _, _, _, _, _, _, _, _, _, _, _, _, _, _, _, _, _, _, _, _, _, _, _, _, _, _, _, _, _, _, _, _, _, _, _, _, _, _, _, _, _, _, _, _, _, _, _, _, _, _, _]) ?_
                refine s_nil rfl ?_
                refine x_then ?_
                have hle2 := setL_len ((l.take i).map (·.slot))
                rw [← hset] at hle2
                simp only [List.length_map, List.length_take] at hle2
                have hzz : lessN ex.slot (out0.drop k) = 0 := by first | exact lessN_end (by omega) | exact lessN_stop he19 (by assumption)
                have hlk2 : lessN ex.slot out0 = k := by omega
                have hnew : setL ((l.take (i + 1)).map (·.slot)) = ((([] ++ (out0.take k)) ++ [ex.slot]) ++ (out0.drop k)) := by
                  rw [setL_snoc hex, ← hset, insL, hlk2]
                  rw [if_neg (fun hh => by first | (rw [List.getElem?_eq_none (by omega)] at hh; cases hh) | (rw [he19] at hh; injection hh with hh; exact absurd hh (by assumption)))]
                  simp
                refine ⟨_, _, ?_, rfl, (i + 1), ((([] ++ (out0.take k)) ++ [ex.slot]) ++ (out0.drop k)), v314, a242, w315.heap.size, (fun n_ => ([jk9 0, .int .i64 (k : Int), .int .i64 (i : Int), v, .int .i64 (l.length : Int), .bool true, .int .i64 (i : Int), .int .i64 ((i : Int) + 1), .int .i64 (k : Int), out, .int .i64 (out0.length : Int), .bool true, .bool true, out, .int .i64 (k : Int), .pointer (some ⟨a16, o17, none⟩), .int .i64 e15, v, .int .i64 (i : Int), .pointer (some ⟨a25, o26, none⟩), .pointer (some ⟨a25, o26 + 0, none⟩), .int .i64 ex.slot, .bool false, .bool false, jk9 17, jk9 18, .int .i64 (k : Int), out, .int .i64 (out0.length : Int), .bool false, .bool false, out, .int .i64 (k : Int), .pointer (some ⟨a191, o192, none⟩), .int .i64 e15, v, .int .i64 (i : Int), .pointer (some ⟨a200, o201, none⟩), .pointer (some ⟨a200, o201 + 0, none⟩), .int .i64 ex.slot, .bool true, .bool true, .slice (some ⟨a242, 0, none⟩) 0 0, out, .int .i64 (k : Int), v225, v298, v, .int .i64 (i : Int), .pointer (some ⟨a229, o230, none⟩), .pointer (some ⟨a229, o230 + 0, none⟩), .int .i64 ex.slot, .slice (some ⟨a284, 0, none⟩) 1 1, v303, out, .int .i64 (k : Int), v239, v314] : List Value).getD n_ undef), rfl, rfl, (by omega), hnew.symm, (by omega), hb10, hO316⟩
                omega
            · skip
              refine s_buildSlice (cs := [.int .i64 ex.slot]) (e := 3) 23 1 _ rfl rfl (by kernel_rfl) ?_
              intro a319 w320 he321 hB322 hc323 hz324
              refine norm (rfl : _ = [_, _, _, _, _, _, _, _, _, _, _, _, _, _, _, _, _, _, _, _, _, _, _, _, _, _, _, _, _, _, _, _, _, _, _, _, _, _, _, _, _, _, _, _, _, _, _, _, _, _, _, _, _, _, _, _, _, _, _, _, _, _, _]) ?_
              have hs325 := hc323.size
              replace hb10 := hb10.chg hc323 (by omega)
              replace hr218 := hr218.chg hc323 (by omega)
              replace hO := hO.chg hc323 (by omega)
              replace hd34 := hd34.chg hc323 (by omega)
              replace hd209 := hd209.chg hc323 (by omega)
              refine s_nil rfl ?_
              refine x_h hr218 ?_
              refine h_one 0 (by kernel_rfl) rfl (rfl : _ = [true, true, true, true, false, true, true, true, true, true, true, false, true, true, true, false, false]) ?_
              refine s_buildSlice (cs := []) (e := 3) 23 0 _ rfl rfl (by kernel_rfl) ?_
              intro a326 w327 he328 hB329 hc330 hz331
              refine norm (rfl : _ = [_, _, _, _, _, _, _, _, _, _, _, _, _, _, _, _, _, _, _, _, _, _, _, _, _, _, _, _, _, _, _, _, _, _, _, _, _, _, _, _, _, _, _, _, _, _, _, _, _, _, _, _, _, _, _, _, _, _, _, _, _, _, _]) ?_
              have hs332 := hc330.size
              replace hb10 := hb10.chg hc330 (by omega)
              replace hr218 := hr218.chg hc330 (by omega)
              replace hO := hO.chg hc330 (by omega)
              replace hd34 := hd34.chg hc330 (by omega)
              replace hd209 := hd209.chg hc330 (by omega)
              replace hB322 := hB322.chg hc330 (by omega)
              refine s_nil rfl ?_
              refine x_h hr218 ?_
              refine h_one 4 (by kernel_rfl) rfl (rfl : _ = [true, true, true, true, true, true, true, true, true, true, true, false, true, true, true, false, false]) ?_
              have hO333 : OwnX kInt 3 0 a326 (a326 + 1) w327 (.slice (some ⟨a326, 0, none⟩) 0 0) [] := OwnX.of_bx (ok := (fun _ => False)) hB329 .nil rfl (by simp [lim]) (by omega) (Nat.le_refl _) (by omega) (by omega) (fun _ hb _ => hb.elim)
              obtain ⟨ad334, c335, ds336, hv337, hF338, had339⟩ := ((hS226.keep (Kept.all hr218))).flat
              refine s_appendX kInt (z := (.int .i64 0)) (bytes := 8) (ys := (out0.take k)) (ok2 := fun _ => False) Try.underlying23 (by kernel_rfl) rfl (by decide) (by decide) (by decide) rfl hO333 hv337 (hF338.any kInt_plain (fun _ => False) _) had339 (fun _ hb _ => hb.elim) (by have hle3 := setL_len ((l.take i).map (·.slot)); rw [← hset] at hle3; simp [lim] at *; omega) ?_
              intro v340 w341 hO342 hc343
              refine norm (rfl : _ = [_, _, _, _, _, _, _, _, _, _, _, _, _, _, _, _, _, _, _, _, _, _, _, _, _, _, _, _, _, _, _, _, _, _, _, _, _, _, _, _, _, _, _, _, _, _, _, _, _, _, _, _, _, _, _, _, _, _, _, _, _, _, _]) ?_
              have hs344 := hc343.size
              replace hb10 := hb10.chg hc343 (by omega)
              replace hr218 := hr218.chg hc343 (by omega)
              replace hO := hO.chg hc343 (by omega)
              replace hd34 := hd34.chg hc343 (by omega)
              replace hd209 := hd209.chg hc343 (by omega)
              replace hB322 := hB322.chg hc343 (by omega)
              refine s_nil rfl ?_
              refine x_h hr218 ?_
              refine h_one 11 (by kernel_rfl) rfl (rfl : _ = [true, true, true, true, true, true, true, true, true, true, true, true, true, true, true, false, false]) ?_
              refine s_appendX kInt (z := (.int .i64 0)) (bytes := 8) (ys := [ex.slot]) (ok2 := fun _ => False) Try.underlying23 (by kernel_rfl) rfl (by decide) (by decide) (by decide) rfl hO342 rfl (flat_one rfl) (had_bx hB322) (fun _ hb _ => hb.elim) (by have hle3 := setL_len ((l.take i).map (·.slot)); rw [← hset] at hle3; simp [lim] at *; omega) ?_
              intro v345 w346 hO347 hc348
              refine norm (rfl : _ = [_, _, _, _, _, _, _, _, _, _, _, _, _, _, _, _, _, _, _, _, _, _, _, _, _, _, _, _, _, _, _, _, _, _, _, _, _, _, _, _, _, _, _, _, _, _, _, _, _, _, _, _, _, _, _, _, _, _, _, _, _, _, _]) ?_
              have hs349 := hc348.size
              replace hb10 := hb10.chg hc348 (by omega)
              replace hr218 := hr218.chg hc348 (by omega)
              replace hO := hO.chg hc348 (by omega)
              replace hd34 := hd34.chg hc348 (by omega)
              replace hd209 := hd209.chg hc348 (by omega)
              refine s_nil rfl ?_
              refine x_h hr218 ?_
              refine h_one 15 (by kernel_rfl) rfl (rfl : _ = [true, true, true, true, true, true, true, true, true, true, true, true, true, true, true, true, false]) ?_
              obtain ⟨ad350, c351, ds352, hv353, hF354, had355⟩ := ((hS240.keep (Kept.all hr218))).flat
              refine s_appendX kInt (z := (.int .i64 0)) (bytes := 8) (ys := (out0.drop k)) (ok2 := fun _ => False) Try.underlying23 (by kernel_rfl) rfl (by decide) (by decide) (by decide) rfl hO347 hv353 (hF354.any kInt_plain (fun _ => False) _) had355 (fun _ hb _ => hb.elim) (by have hle3 := setL_len ((l.take i).map (·.slot)); rw [← hset] at hle3; simp [lim] at *; omega) ?_
              intro v356 w357 hO358 hc359
              refine norm (rfl : _ = [_, _, _, _, _, _, _, _, _, _, _, _, _, _, _, _, _, _, _, _, _, _, _, _, _, _, _, _, _, _, _, _, _, _, _, _, _, _, _, _, _, _, _, _, _, _, _, _, _, _, _, _, _, _, _, _, _, _, _, _, _, _, _]) ?_
              have hs360 := hc359.size
              replace hb10 := hb10.chg hc359 (by omega)
              replace hr218 := hr218.chg hc359 (by omega)
              replace hO := hO.chg hc359 (by omega)
              replace hd34 := hd34.chg hc359 (by omega)
              replace hd209 := hd209.chg hc359 (by omega)
              refine s_nil rfl ?_
              refine x_h hr218 ?_
              refine h_take 16 rfl (by kernel_rfl) (rfl : _ = [true, true, true, true, true, true, true, true, true, true, true, true, true, true, true, true, true]) ?_
              refine h_val (v := v356) rfl (fun w' hC => r_assign rfl) (rfl : _ = [_, _, _, _, _, _, _, _, _, _, _, _, _, _, _, _, _, _, _, _, _, _, _, _, _, _, _, _, _, _, _, _, _, _, _, _, _, _, _, _, _, _, _, _, _, _, _, _, _, _, _, _, _, _, _, _, _, _, _, _, _, _, _]) ?_
              refine h_nil (by kernel_rfl) rfl ?_
              replace hS226 := hS226.keep (Kept.all hr218)
              replace hS240 := hS240.keep (Kept.all hr218)
              replace hd238 := hd238.keep (Kept.all hr218)
              refine x_block ?_
              refine x_seq ?_
              refine c_region ?_
              refine s_val (v := (.int .i64 (i : Int))) rfl (r_move rfl) (rfl : _ = [_, _, _, _, _, _, _, _, _, _, _, _, _, _, _, _, _, _, _, _, _, _, _, _, _, _, _, _, _, _, _, _, _, _, _, _, _, _, _, _, _, _, _, _, _, _, _, _, _, _, _, _, _, _, _, _, _, _, _, _, _, _, _]) ?_
              refine s_val (v := (.int .i64 ((i : Int) + 1))) rfl (r_add (c := (i : Int) + 1) rfl rfl (i64_in (by omega) (by omega))) (rfl : _ = [_, _, _, _, _, _, _, _, _, _, _, _, _, _, _, _, _, _, _, _, _, _, _, _, _, _, _, _, _, _, _, _, _, _, _, _, _, _, _, _, _, _, _, _, _, _, _, _, _, _, _, _, _, _, _, _, _, _, _, _, _, _, _]) ?_
              refine s_val (v := (.int .i64 ((i : Int) + 1))) rfl (r_assign rfl) (rfl : _ = [_, _, _, _, _, _, _, _, _, _, _, _, _, _, _, _, _, _, _, _, _, _, _, _, _, _, _, _, _, _, _, _, _, _, _, _, _, _, _, _, _, _, _, _, _, _, _, _, _, _, _, _, _, _, _, _, _, _, _, _, _, _, _]) ?_
              refine s_nil rfl ?_
              refine x_then ?_
              have hle2 := setL_len ((l.take i).map (·.slot))
              rw [← hset] at hle2
              simp only [List.length_map, List.length_take] at hle2
              have hzz : lessN ex.slot (out0.drop k) = 0 := by first | exact lessN_end (by omega) | exact lessN_stop he19 (by assumption)
              have hlk2 : lessN ex.slot out0 = k := by omega
              have hnew : setL ((l.take (i + 1)).map (·.slot)) = ((([] ++ (out0.take k)) ++ [ex.slot]) ++ (out0.drop k)) := by
                rw [setL_snoc hex, ← hset, insL, hlk2]
                rw [if_neg (fun hh => by first | (rw [List.getElem?_eq_none (by omega)] at hh; cases hh) | (rw [he19] at hh; injection hh with hh; exact absurd hh (by assumption)))]
                simp
              refine ⟨_, _, ?_, rfl, (i + 1), ((([] ++ (out0.take k)) ++ [ex.slot]) ++ (out0.drop k)), v356, a326, w357.heap.size, (fun n_ => ([jk9 0, .int .i64 (k : Int), .int .i64 (i : Int), v, .int .i64 (l.length : Int), .bool true, .int .i64 (i : Int), .int .i64 ((i : Int) + 1), .int .i64 (k : Int), out, .int .i64 (out0.length : Int), .bool true, .bool true, out, .int .i64 (k : Int), .pointer (some ⟨a16, o17, none⟩), .int .i64 e15, v, .int .i64 (i : Int), .pointer (some ⟨a25, o26, none⟩), .pointer (some ⟨a25, o26 + 0, none⟩), .int .i64 ex.slot, .bool false, .bool false, jk9 17, jk9 18, .int .i64 (k : Int), out, .int .i64 (out0.length : Int), .bool false, .bool false, out, .int .i64 (k : Int), .pointer (some ⟨a191, o192, none⟩), .int .i64 e15, v, .int .i64 (i : Int), .pointer (some ⟨a200, o201, none⟩), .pointer (some ⟨a200, o201 + 0, none⟩), .int .i64 ex.slot, .bool true, .bool true, .slice (some ⟨a326, 0, none⟩) 0 0, out, .int .i64 (k : Int), v225, v340, v, .int .i64 (i : Int), .pointer (some ⟨a229, o230, none⟩), .pointer (some ⟨a229, o230 + 0, none⟩), .int .i64 ex.slot, .slice (some ⟨a319, 0, none⟩) 1 1, v345, out, .int .i64 (k : Int), v239, v356] : List Value).getD n_ undef), rfl, rfl, (by omega), hnew.symm, (by omega), hb10, hO358⟩
              omega
          | false =>
            replace hb210 := bf hb210
            refine c_cond rfl (fun hh => by cases hh) (fun _ => ?_)
            refine c_skip ?_
            refine x_block ?_
            refine x_seq ?_
            refine c_region ?_
            refine s_val (v := (.int .i64 (i : Int))) rfl (r_move rfl) (rfl : _ = [_, _, _, _, _, _, _, _, _, _, _, _, _, _, _, _, _, _, _, _, _, _, _, _, _, _, _, _, _, _, _, _, _, _, _, _, _, _, _, _, _, _, _, _, _, _, _, _, _, _, _, _, _, _, _, _, _, _, _, _, _, _, _]) ?_
            refine s_val (v := (.int .i64 ((i : Int) + 1))) rfl (r_add (c := (i : Int) + 1) rfl rfl (i64_in (by omega) (by omega))) (rfl : _ = [_, _, _, _, _, _, _, _, _, _, _, _, _, _, _, _, _, _, _, _, _, _, _, _, _, _, _, _, _, _, _, _, _, _, _, _, _, _, _, _, _, _, _, _, _, _, _, _, _, _, _, _, _, _, _, _, _, _, _, _, _, _, _]) ?_
            refine s_val (v := (.int .i64 ((i : Int) + 1))) rfl (r_assign rfl) (rfl : _ = [_, _, _, _, _, _, _, _, _, _, _, _, _, _, _, _, _, _, _, _, _, _, _, _, _, _, _, _, _, _, _, _, _, _, _, _, _, _, _, _, _, _, _, _, _, _, _, _, _, _, _, _, _, _, _, _, _, _, _, _, _, _, _]) ?_
            refine s_nil rfl ?_
            refine x_then ?_
            have hle2 := setL_len ((l.take i).map (·.slot))
            rw [← hset] at hle2
            simp only [List.length_map, List.length_take] at hle2
            have hzz : lessN ex.slot (out0.drop k) = 0 := by first | exact lessN_end (by omega) | exact lessN_stop he19 (by assumption)
            have hlk2 : lessN ex.slot out0 = k := by omega
            have hnew : setL ((l.take (i + 1)).map (·.slot)) = out0 := by
              rw [setL_snoc hex, ← hset, insL, hlk2, if_pos]
              rw [he19]; congr 1; by_cases hh : e15 = ex.slot; exact hh; first | exact absurd hh (by assumption) | exact absurd (fun h => hh h) (by assumption)
            refine ⟨_, _, ?_, rfl, (i + 1), out0, out, nn, hh, (fun n_ => ([jk9 0, .int .i64 (k : Int), .int .i64 (i : Int), v, .int .i64 (l.length : Int), .bool true, .int .i64 (i : Int), .int .i64 ((i : Int) + 1), .int .i64 (k : Int), out, .int .i64 (out0.length : Int), .bool true, .bool true, out, .int .i64 (k : Int), .pointer (some ⟨a16, o17, none⟩), .int .i64 e15, v, .int .i64 (i : Int), .pointer (some ⟨a25, o26, none⟩), .pointer (some ⟨a25, o26 + 0, none⟩), .int .i64 ex.slot, .bool false, .bool false, jk9 17, jk9 18, .int .i64 (k : Int), out, .int .i64 (out0.length : Int), .bool false, .bool false, out, .int .i64 (k : Int), .pointer (some ⟨a191, o192, none⟩), .int .i64 e15, v, .int .i64 (i : Int), .pointer (some ⟨a200, o201, none⟩), .pointer (some ⟨a200, o201 + 0, none⟩), .int .i64 ex.slot, .bool false, .bool false, jk2 42, jk2 43, jk2 44, jk2 45, jk2 46, jk2 47, jk2 48, jk2 49, jk2 50, jk2 51, jk2 52, jk2 53, jk2 54, jk2 55, jk2 56, jk2 57] : List Value).getD n_ undef), rfl, rfl, (by omega), hnew.symm, hnn, hb10, hO⟩
            omega
    | false =>
      replace hb14 := bf hb14
      refine q_skip (wan_f (dj := 16) rfl rfl rfl) (rfl : _ = [_, _, _, _, _, _, _, _, _, _, _, _, _, _, _, _, _, _, _, _, _, _, _, _, _, _, _, _, _, _, _, _, _, _, _, _, _, _, _, _, _, _, _, _, _, _, _, _, _, _, _, _, _, _, _, _, _, _, _, _, _, _, _]) ?_
      refine q_skip (wan_f (dj := 16) rfl rfl rfl) (rfl : _ = [_, _, _, _, _, _, _, _, _, _, _, _, _, _, _, _, _, _, _, _, _, _, _, _, _, _, _, _, _, _, _, _, _, _, _, _, _, _, _, _, _, _, _, _, _, _, _, _, _, _, _, _, _, _, _, _, _, _, _, _, _, _, _]) ?_
      refine q_skip (wan_f (dj := 16) rfl rfl rfl) (rfl : _ = [_, _, _, _, _, _, _, _, _, _, _, _, _, _, _, _, _, _, _, _, _, _, _, _, _, _, _, _, _, _, _, _, _, _, _, _, _, _, _, _, _, _, _, _, _, _, _, _, _, _, _, _, _, _, _, _, _, _, _, _, _, _, _]) ?_
      refine q_skip (wan_f (dj := 16) rfl rfl rfl) (rfl : _ = [_, _, _, _, _, _, _, _, _, _, _, _, _, _, _, _, _, _, _, _, _, _, _, _, _, _, _, _, _, _, _, _, _, _, _, _, _, _, _, _, _, _, _, _, _, _, _, _, _, _, _, _, _, _, _, _, _, _, _, _, _, _, _]) ?_
      refine q_skip (wan_f (dj := 16) rfl rfl rfl) (rfl : _ = [_, _, _, _, _, _, _, _, _, _, _, _, _, _, _, _, _, _, _, _, _, _, _, _, _, _, _, _, _, _, _, _, _, _, _, _, _, _, _, _, _, _, _, _, _, _, _, _, _, _, _, _, _, _, _, _, _, _, _, _, _, _, _]) ?_
      refine q_skip (wan_f (dj := 16) rfl rfl rfl) (rfl : _ = [_, _, _, _, _, _, _, _, _, _, _, _, _, _, _, _, _, _, _, _, _, _, _, _, _, _, _, _, _, _, _, _, _, _, _, _, _, _, _, _, _, _, _, _, _, _, _, _, _, _, _, _, _, _, _, _, _, _, _, _, _, _, _]) ?_
      refine q_skip (wan_f (dj := 16) rfl rfl rfl) (rfl : _ = [_, _, _, _, _, _, _, _, _, _, _, _, _, _, _, _, _, _, _, _, _, _, _, _, _, _, _, _, _, _, _, _, _, _, _, _, _, _, _, _, _, _, _, _, _, _, _, _, _, _, _, _, _, _, _, _, _, _, _, _, _, _, _]) ?_
      refine q_skip (wan_f (dj := 16) rfl rfl rfl) (rfl : _ = [_, _, _, _, _, _, _, _, _, _, _, _, _, _, _, _, _, _, _, _, _, _, _, _, _, _, _, _, _, _, _, _, _, _, _, _, _, _, _, _, _, _, _, _, _, _, _, _, _, _, _, _, _, _, _, _, _, _, _, _, _, _, _]) ?_
      refine q_skip (wan_f (dj := 16) rfl rfl rfl) (rfl : _ = [_, _, _, _, _, _, _, _, _, _, _, _, _, _, _, _, _, _, _, _, _, _, _, _, _, _, _, _, _, _, _, _, _, _, _, _, _, _, _, _, _, _, _, _, _, _, _, _, _, _, _, _, _, _, _, _, _, _, _, _, _, _, _]) ?_
      refine q_skip (wan_f (dj := 16) rfl rfl rfl) (rfl : _ = [_, _, _, _, _, _, _, _, _, _, _, _, _, _, _, _, _, _, _, _, _, _, _, _, _, _, _, _, _, _, _, _, _, _, _, _, _, _, _, _, _, _, _, _, _, _, _, _, _, _, _, _, _, _, _, _, _, _, _, _, _, _, _]) ?_
      refine q_val (v := (.bool false)) rfl (fun w' hC => r_pick rfl rfl) (rfl : _ = [_, _, _, _, _, _, _, _, _, _, _, _, _, _, _, _, _, _, _, _, _, _, _, _, _, _, _, _, _, _, _, _, _, _, _, _, _, _, _, _, _, _, _, _, _, _, _, _, _, _, _, _, _, _, _, _, _, _, _, _, _, _, _]) ?_
      refine q_nil rfl ?_
      intro w361 hq362
      have hc363 := Chg.of_bel hq362
      have hs364 := hc363.size
      replace hb10 := hb10.chg hc363 (by omega)
      replace hO := hO.chg hc363 (by omega)
      refine x_seq ?_
      refine c_cond rfl (fun hh => by cases hh) (fun _ => ?_)
      refine c_exit ?_
      refine x_then_exit ?_
      refine x_then_exit ?_
      refine x_block_same ?_
      refine x_seq ?_
      refine c_seq ?_
      refine c_draw (by kernel_rfl) (by kernel_rfl) ?_
      refine q_val (v := (.int .i64 (k : Int))) rfl (fun w' hC => r_move rfl) (rfl : _ = [_, _, _, _, _, _, _, _, _, _, _, _, _, _, _, _, _, _, _, _, _, _, _, _, _, _, _, _, _, _, _, _, _, _, _, _, _, _, _, _, _, _, _, _, _, _, _, _, _, _, _, _, _, _, _, _, _, _, _, _, _, _, _]) ?_
      refine q_val (v := out) rfl (fun w' hC => r_move rfl) (rfl : _ = [_, _, _, _, _, _, _, _, _, _, _, _, _, _, _, _, _, _, _, _, _, _, _, _, _, _, _, _, _, _, _, _, _, _, _, _, _, _, _, _, _, _, _, _, _, _, _, _, _, _, _, _, _, _, _, _, _, _, _, _, _, _, _]) ?_
      refine q_val (v := (.int .i64 (out0.length : Int))) rfl (fun w' hC => hO.sl.len Try.underlying23 rfl _) (rfl : _ = [_, _, _, _, _, _, _, _, _, _, _, _, _, _, _, _, _, _, _, _, _, _, _, _, _, _, _, _, _, _, _, _, _, _, _, _, _, _, _, _, _, _, _, _, _, _, _, _, _, _, _, _, _, _, _, _, _, _, _, _, _, _, _]) ?_
      refine q_bool (p := ((k : Int) = (out0.length : Int) : Prop)) rfl (fun w' hC => r_eqi rfl rfl) eqi_iff ?_
      intro b365 hb365
      refine q_norm (rfl : _ = [_, _, _, _, _, _, _, _, _, _, _, _, _, _, _, _, _, _, _, _, _, _, _, _, _, _, _, _, _, _, _, _, _, _, _, _, _, _, _, _, _, _, _, _, _, _, _, _, _, _, _, _, _, _, _, _, _, _, _, _, _, _, _]) ?_
      refine q_val (v := (.bool b365)) rfl (fun w' hC => r_move rfl) (rfl : _ = [_, _, _, _, _, _, _, _, _, _, _, _, _, _, _, _, _, _, _, _, _, _, _, _, _, _, _, _, _, _, _, _, _, _, _, _, _, _, _, _, _, _, _, _, _, _, _, _, _, _, _, _, _, _, _, _, _, _, _, _, _, _, _]) ?_
      cases b365 with
      | true =>
        replace hb365 := bt hb365
        refine q_skip (wan_f (dj := 34) rfl rfl rfl) (rfl : _ = [_, _, _, _, _, _, _, _, _, _, _, _, _, _, _, _, _, _, _, _, _, _, _, _, _, _, _, _, _, _, _, _, _, _, _, _, _, _, _, _, _, _, _, _, _, _, _, _, _, _, _, _, _, _, _, _, _, _, _, _, _, _, _]) ?_
        refine q_skip (wan_f (dj := 34) rfl rfl rfl) (rfl : _ = [_, _, _, _, _, _, _, _, _, _, _, _, _, _, _, _, _, _, _, _, _, _, _, _, _, _, _, _, _, _, _, _, _, _, _, _, _, _, _, _, _, _, _, _, _, _, _, _, _, _, _, _, _, _, _, _, _, _, _, _, _, _, _]) ?_
        refine q_skip (wan_f (dj := 34) rfl rfl rfl) (rfl : _ = [_, _, _, _, _, _, _, _, _, _, _, _, _, _, _, _, _, _, _, _, _, _, _, _, _, _, _, _, _, _, _, _, _, _, _, _, _, _, _, _, _, _, _, _, _, _, _, _, _, _, _, _, _, _, _, _, _, _, _, _, _, _, _]) ?_
        refine q_skip (wan_f (dj := 34) rfl rfl rfl) (rfl : _ = [_, _, _, _, _, _, _, _, _, _, _, _, _, _, _, _, _, _, _, _, _, _, _, _, _, _, _, _, _, _, _, _, _, _, _, _, _, _, _, _, _, _, _, _, _, _, _, _, _, _, _, _, _, _, _, _, _, _, _, _, _, _, _]) ?_
        refine q_skip (wan_f (dj := 34) rfl rfl rfl) (rfl : _ = [_, _, _, _, _, _, _, _, _, _, _, _, _, _, _, _, _, _, _, _, _, _, _, _, _, _, _, _, _, _, _, _, _, _, _, _, _, _, _, _, _, _, _, _, _, _, _, _, _, _, _, _, _, _, _, _, _, _, _, _, _, _, _]) ?_
        refine q_skip (wan_f (dj := 34) rfl rfl rfl) (rfl : _ = [_, _, _, _, _, _, _, _, _, _, _, _, _, _, _, _, _, _, _, _, _, _, _, _, _, _, _, _, _, _, _, _, _, _, _, _, _, _, _, _, _, _, _, _, _, _, _, _, _, _, _, _, _, _, _, _, _, _, _, _, _, _, _]) ?_
        refine q_skip (wan_f (dj := 34) rfl rfl rfl) (rfl : _ = [_, _, _, _, _, _, _, _, _, _, _, _, _, _, _, _, _, _, _, _, _, _, _, _, _, _, _, _, _, _, _, _, _, _, _, _, _, _, _, _, _, _, _, _, _, _, _, _, _, _, _, _, _, _, _, _, _, _, _, _, _, _, _]) ?_
        refine q_skip (wan_f (dj := 34) rfl rfl rfl) (rfl : _ = [_, _, _, _, _, _, _, _, _, _, _, _, _, _, _, _, _, _, _, _, _, _, _, _, _, _, _, _, _, _, _, _, _, _, _, _, _, _, _, _, _, _, _, _, _, _, _, _, _, _, _, _, _, _, _, _, _, _, _, _, _, _, _]) ?_
        refine q_skip (wan_f (dj := 34) rfl rfl rfl) (rfl : _ = [_, _, _, _, _, _, _, _, _, _, _, _, _, _, _, _, _, _, _, _, _, _, _, _, _, _, _, _, _, _, _, _, _, _, _, _, _, _, _, _, _, _, _, _, _, _, _, _, _, _, _, _, _, _, _, _, _, _, _, _, _, _, _]) ?_
        refine q_skip (wan_f (dj := 34) rfl rfl rfl) (rfl : _ = [_, _, _, _, _, _, _, _, _, _, _, _, _, _, _, _, _, _, _, _, _, _, _, _, _, _, _, _, _, _, _, _, _, _, _, _, _, _, _, _, _, _, _, _, _, _, _, _, _, _, _, _, _, _, _, _, _, _, _, _, _, _, _]) ?_
        refine q_val (v := (.bool true)) rfl (fun w' hC => r_pick rfl rfl) (rfl : _ = [_, _, _, _, _, _, _, _, _, _, _, _, _, _, _, _, _, _, _, _, _, _, _, _, _, _, _, _, _, _, _, _, _, _, _, _, _, _, _, _, _, _, _, _, _, _, _, _, _, _, _, _, _, _, _, _, _, _, _, _, _, _, _]) ?_
        refine q_nil rfl ?_
        intro w366 hq367
        have hc368 := Chg.of_bel hq367
        have hs369 := hc368.size
        replace hb10 := hb10.chg hc368 (by omega)
        replace hO := hO.chg hc368 (by omega)
        refine x_seq ?_
        refine c_cond rfl (fun _ => ?_) (fun hh => by cases hh)
        refine c_held (by kernel_rfl) (by kernel_rfl) rfl rfl ?_
        intro w370 hb371 hz372
        have hc374 := Chg.of_bel hb371
        have hs375 := hc374.size
        replace hb10 := hb10.chg hc374 (by omega)
        replace hO := hO.chg hc374 (by omega)
        have hr373 := Bel.refl w370
        have hbz376 := hb10
        have hOz377 := hO
        refine h_take 1 rfl (by kernel_rfl) (rfl : _ = [false, true, false, false, false, false, false, false, false, false, false, false, false, false, false, false, false]) ?_
        refine h_val (v := out) rfl (fun w' hC => r_move rfl) (rfl : _ = [_, _, _, _, _, _, _, _, _, _, _, _, _, _, _, _, _, _, _, _, _, _, _, _, _, _, _, _, _, _, _, _, _, _, _, _, _, _, _, _, _, _, _, _, _, _, _, _, _, _, _, _, _, _, _, _, _, _, _, _, _, _, _]) ?_
        refine h_take 2 rfl (by kernel_rfl) (rfl : _ = [false, true, true, false, false, false, false, false, false, false, false, false, false, false, false, false, false]) ?_
        refine h_val (v := (.int .i64 (k : Int))) rfl (fun w' hC => r_move rfl) (rfl : _ = [_, _, _, _, _, _, _, _, _, _, _, _, _, _, _, _, _, _, _, _, _, _, _, _, _, _, _, _, _, _, _, _, _, _, _, _, _, _, _, _, _, _, _, _, _, _, _, _, _, _, _, _, _, _, _, _, _, _, _, _, _, _, _]) ?_
        refine h_take 3 rfl (by kernel_rfl) (rfl : _ = [false, true, true, true, false, false, false, false, false, false, false, false, false, false, false, false, false]) ?_
        obtain ⟨v378, hS379, hk380⟩ := ((hOz377.sl)).take (i := (k : Int)) (by omega) (by omega)
        rw [Int.toNat_natCast] at hS379
        refine h_val rfl (fun w' hC => hk380 _ _ _ _ _ _ _ (by kernel_rfl) rfl rfl) (rfl : _ = [_, _, _, _, _, _, _, _, _, _, _, _, _, _, _, _, _, _, _, _, _, _, _, _, _, _, _, _, _, _, _, _, _, _, _, _, _, _, _, _, _, _, _, _, _, _, _, _, _, _, _, _, _, _, _, _, _, _, _, _, _, _, _]) ?_
        refine h_take 5 rfl (by kernel_rfl) (rfl : _ = [false, true, true, true, false, true, false, false, false, false, false, false, false, false, false, false, false]) ?_
        refine h_val (v := v) rfl (fun w' hC => r_move rfl) (rfl : _ = [_, _, _, _, _, _, _, _, _, _, _, _, _, _, _, _, _, _, _, _, _, _, _, _, _, _, _, _, _, _, _, _, _, _, _, _, _, _, _, _, _, _, _, _, _, _, _, _, _, _, _, _, _, _, _, _, _, _, _, _, _, _, _]) ?_
        refine h_take 6 rfl (by kernel_rfl) (rfl : _ = [false, true, true, true, false, true, true, false, false, false, false, false, false, false, false, false, false]) ?_
        refine h_val (v := (.int .i64 (i : Int))) rfl (fun w' hC => r_move rfl) (rfl : _ = [_, _, _, _, _, _, _, _, _, _, _, _, _, _, _, _, _, _, _, _, _, _, _, _, _, _, _, _, _, _, _, _, _, _, _, _, _, _, _, _, _, _, _, _, _, _, _, _, _, _, _, _, _, _, _, _, _, _, _, _, _, _, _]) ?_
        refine h_take 7 rfl (by kernel_rfl) (rfl : _ = [false, true, true, true, false, true, true, true, false, false, false, false, false, false, false, false, false]) ?_
        obtain ⟨e381, a382, o383, c384, he385, hc386, hr387, hk388, hi389⟩ := ((hS.at_ hbz376)).idx (j := (i : Int)) (by omega) (by omega)
        rw [Int.toNat_natCast] at he385
        rw [hex] at he385
        injection he385 with he385
        subst he385
        obtain ⟨d390, rfl, hd391⟩ := kVot_cells.1 hc386
        refine h_val rfl (fun w' hC => hi389 _ _ _ _ _ _ _ (by kernel_rfl) rfl rfl) (rfl : _ = [_, _, _, _, _, _, _, _, _, _, _, _, _, _, _, _, _, _, _, _, _, _, _, _, _, _, _, _, _, _, _, _, _, _, _, _, _, _, _, _, _, _, _, _, _, _, _, _, _, _, _, _, _, _, _, _, _, _, _, _, _, _, _]) ?_
        refine h_take 8 rfl (by kernel_rfl) (rfl : _ = [false, true, true, true, false, true, true, true, true, false, false, false, false, false, false, false, false]) ?_
        refine h_val (v := (.pointer (some ⟨a382, o383 + 0, none⟩))) rfl (fun w' hC => r_field (k := 0) (o := o383) (by kernel_rfl) rfl) (rfl : _ = [_, _, _, _, _, _, _, _, _, _, _, _, _, _, _, _, _, _, _, _, _, _, _, _, _, _, _, _, _, _, _, _, _, _, _, _, _, _, _, _, _, _, _, _, _, _, _, _, _, _, _, _, _, _, _, _, _, _, _, _, _, _, _]) ?_
        refine h_take 9 rfl (by kernel_rfl) (rfl : _ = [false, true, true, true, false, true, true, true, true, true, false, false, false, false, false, false, false]) ?_
        refine h_val (v := (.int .i64 ex.slot)) rfl (fun w' hC => r_load rfl (Ld.one Try.underlying3 rfl ((range_below hr387 hC) 0 _ rfl))) (rfl : _ = [_, _, _, _, _, _, _, _, _, _, _, _, _, _, _, _, _, _, _, _, _, _, _, _, _, _, _, _, _, _, _, _, _, _, _, _, _, _, _, _, _, _, _, _, _, _, _, _, _, _, _, _, _, _, _, _, _, _, _, _, _, _, _]) ?_
        refine h_take 12 rfl (by kernel_rfl) (rfl : _ = [false, true, true, true, false, true, true, true, true, true, false, false, true, false, false, false, false]) ?_
        refine h_val (v := out) rfl (fun w' hC => r_move rfl) (rfl : _ = [_, _, _, _, _, _, _, _, _, _, _, _, _, _, _, _, _, _, _, _, _, _, _, _, _, _, _, _, _, _, _, _, _, _, _, _, _, _, _, _, _, _, _, _, _, _, _, _, _, _, _, _, _, _, _, _, _, _, _, _, _, _, _]) ?_
        refine h_take 13 rfl (by kernel_rfl) (rfl : _ = [false, true, true, true, false, true, true, true, true, true, false, false, true, true, false, false, false]) ?_
        refine h_val (v := (.int .i64 (k : Int))) rfl (fun w' hC => r_move rfl) (rfl : _ = [_, _, _, _, _, _, _, _, _, _, _, _, _, _, _, _, _, _, _, _, _, _, _, _, _, _, _, _, _, _, _, _, _, _, _, _, _, _, _, _, _, _, _, _, _, _, _, _, _, _, _, _, _, _, _, _, _, _, _, _, _, _, _]) ?_
        refine h_take 14 rfl (by kernel_rfl) (rfl : _ = [false, true, true, true, false, true, true, true, true, true, false, false, true, true, true, false, false]) ?_
        obtain ⟨v392, hS393, hk394⟩ := ((hOz377.sl)).drop (i := (k : Int)) (by omega) (by omega)
        rw [Int.toNat_natCast] at hS393
        refine h_val rfl (fun w' hC => hk394 _ _ _ _ _ _ _ (by kernel_rfl) rfl rfl) (rfl : _ = [_, _, _, _, _, _, _, _, _, _, _, _, _, _, _, _, _, _, _, _, _, _, _, _, _, _, _, _, _, _, _, _, _, _, _, _, _, _, _, _, _, _, _, _, _, _, _, _, _, _, _, _, _, _, _, _, _, _, _, _, _, _, _]) ?_
        refine h_two 0 10 (by kernel_rfl) rfl rfl (rfl : _ = [true, true, true, true, false, true, true, true, true, true, false, false, true, true, true, false, false]) (rfl : _ = [false, true, true, true, false, true, true, true, true, true, true, false, true, true, true, false, false]) ?_ ?_
        · skip
          refine s_buildSlice (cs := []) (e := 3) 23 0 _ rfl rfl (by kernel_rfl) ?_
          intro a395 w396 he397 hB398 hc399 hz400
          refine norm (rfl : _ = [_, _, _, _, _, _, _, _, _, _, _, _, _, _, _, _, _, _, _, _, _, _, _, _, _, _, _, _, _, _, _, _, _, _, _, _, _, _, _, _, _, _, _, _, _, _, _, _, _, _, _, _, _, _, _, _, _, _, _, _, _, _, _]) ?_
          have hs401 := hc399.size
          replace hb10 := hb10.chg hc399 (by omega)
          replace hr373 := hr373.chg hc399 (by omega)
          replace hO := hO.chg hc399 (by omega)
          refine s_nil rfl ?_
          refine x_h hr373 ?_
          refine h_two 4 10 (by kernel_rfl) rfl rfl (rfl : _ = [true, true, true, true, true, true, true, true, true, true, false, false, true, true, true, false, false]) (rfl : _ = [true, true, true, true, false, true, true, true, true, true, true, false, true, true, true, false, false]) ?_ ?_
          · skip
            have hO402 : OwnX kInt 3 0 a395 (a395 + 1) w396 (.slice (some ⟨a395, 0, none⟩) 0 0) [] := OwnX.of_bx (ok := (fun _ => False)) hB398 .nil rfl (by simp [lim]) (by omega) (Nat.le_refl _) (by omega) (by omega) (fun _ hb _ => hb.elim)
            obtain ⟨ad403, c404, ds405, hv406, hF407, had408⟩ := ((hS379.keep (Kept.all hr373))).flat
            refine s_appendX kInt (z := (.int .i64 0)) (bytes := 8) (ys := (out0.take k)) (ok2 := fun _ => False) Try.underlying23 (by kernel_rfl) rfl (by decide) (by decide) (by decide) rfl hO402 hv406 (hF407.any kInt_plain (fun _ => False) _) had408 (fun _ hb _ => hb.elim) (by have hle3 := setL_len ((l.take i).map (·.slot)); rw [← hset] at hle3; simp [lim] at *; omega) ?_
            intro v409 w410 hO411 hc412
            refine norm (rfl : _ = [_, _, _, _, _, _, _, _, _, _, _, _, _, _, _, _, _, _, _, _, _, _, _, _, _, _, _, _, _, _, _, _, _, _, _, _, _, _, _, _, _, _, _, _, _, _, _, _, _, _, _, _, _, _, _, _, _, _, _, _, _, _, _]) ?_
            have hs413 := hc412.size
            replace hb10 := hb10.chg hc412 (by omega)
            replace hr373 := hr373.chg hc412 (by omega)
            replace hO := hO.chg hc412 (by omega)
            refine s_nil rfl ?_
            refine x_h hr373 ?_
            refine h_one 10 (by kernel_rfl) rfl (rfl : _ = [true, true, true, true, true, true, true, true, true, true, true, false, true, true, true, false, false]) ?_
            refine s_buildSlice (cs := [.int .i64 ex.slot]) (e := 3) 23 1 _ rfl rfl (by kernel_rfl) ?_
            intro a414 w415 he416 hB417 hc418 hz419
            refine norm (rfl : _ = [_, _, _, _, _, _, _, _, _, _, _, _, _, _, _, _, _, _, _, _, _, _, _, _, _, _, _, _, _, _, _, _, _, _, _, _, _, _, _, _, _, _, _, _, _, _, _, _, _, _, _, _, _, _, _, _, _, _, _, _, _, _, _]) ?_
            have hs420 := hc418.size
            replace hb10 := hb10.chg hc418 (by omega)
            replace hr373 := hr373.chg hc418 (by omega)
            replace hO := hO.chg hc418 (by omega)
            replace hO411 := hO411.chg hc418 (by omega)
            refine s_nil rfl ?_
            refine x_h hr373 ?_
            refine h_one 11 (by kernel_rfl) rfl (rfl : _ = [true, true, true, true, true, true, true, true, true, true, true, true, true, true, true, false, false]) ?_
            refine s_appendX kInt (z := (.int .i64 0)) (bytes := 8) (ys := [ex.slot]) (ok2 := fun _ => False) Try.underlying23 (by kernel_rfl) rfl (by decide) (by decide) (by decide) rfl hO411 rfl (flat_one rfl) (had_bx hB417) (fun _ hb _ => hb.elim) (by have hle3 := setL_len ((l.take i).map (·.slot)); rw [← hset] at hle3; simp [lim] at *; omega) ?_
            intro v421 w422 hO423 hc424
            refine norm (rfl : _ = [_, _, _, _, _, _, _, _, _, _, _, _, _, _, _, _, _, _, _, _, _, _, _, _, _, _, _, _, _, _, _, _, _, _, _, _, _, _, _, _, _, _, _, _, _, _, _, _, _, _, _, _, _, _, _, _, _, _, _, _, _, _, _]) ?_
            have hs425 := hc424.size
            replace hb10 := hb10.chg hc424 (by omega)
            replace hr373 := hr373.chg hc424 (by omega)
            replace hO := hO.chg hc424 (by omega)
            refine s_nil rfl ?_
            refine x_h hr373 ?_
            refine h_one 15 (by kernel_rfl) rfl (rfl : _ = [true, true, true, true, true, true, true, true, true, true, true, true, true, true, true, true, false]) ?_
            obtain ⟨ad426, c427, ds428, hv429, hF430, had431⟩ := ((hS393.keep (Kept.all hr373))).flat
            refine s_appendX kInt (z := (.int .i64 0)) (bytes := 8) (ys := (out0.drop k)) (ok2 := fun _ => False) Try.underlying23 (by kernel_rfl) rfl (by decide) (by decide) (by decide) rfl hO423 hv429 (hF430.any kInt_plain (fun _ => False) _) had431 (fun _ hb _ => hb.elim) (by have hle3 := setL_len ((l.take i).map (·.slot)); rw [← hset] at hle3; simp [lim] at *; omega) ?_
            intro v432 w433 hO434 hc435
            refine norm (rfl : _ = [_, _, _, _, _, _, _, _, _, _, _, _, _, _, _, _, _, _, _, _, _, _, _, _, _, _, _, _, _, _, _, _, _, _, _, _, _, _, _, _, _, _, _, _, _, _, _, _, _, _, _, _, _, _, _, _, _, _, _, _, _, _, _]) ?_
            have hs436 := hc435.size
            replace hb10 := hb10.chg hc435 (by omega)
            replace hr373 := hr373.chg hc435 (by omega)
            replace hO := hO.chg hc435 (by omega)
            refine s_nil rfl ?_
            refine x_h hr373 ?_
            refine h_take 16 rfl (by kernel_rfl) (rfl : _ = [true, true, true, true, true, true, true, true, true, true, true, true, true, true, true, true, true]) ?_
            refine h_val (v := v432) rfl (fun w' hC => r_assign rfl) (rfl : _ = [_, _, _, _, _, _, _, _, _, _, _, _, _, _, _, _, _, _, _, _, _, _, _, _, _, _, _, _, _, _, _, _, _, _, _, _, _, _, _, _, _, _, _, _, _, _, _, _, _, _, _, _, _, _, _, _, _, _, _, _, _, _, _]) ?_
            refine h_nil (by kernel_rfl) rfl ?_
            replace hS379 := hS379.keep (Kept.all hr373)
            replace hS393 := hS393.keep (Kept.all hr373)
            replace hd391 := hd391.keep (Kept.all hr373)
            refine x_block ?_
            refine x_seq ?_
            refine c_region ?_
            refine s_val (v := (.int .i64 (i : Int))) rfl (r_move rfl) (rfl : _ = [_, _, _, _, _, _, _, _, _, _, _, _, _, _, _, _, _, _, _, _, _, _, _, _, _, _, _, _, _, _, _, _, _, _, _, _, _, _, _, _, _, _, _, _, _, _, _, _, _, _, _, _, _, _, _, _, _, _, _, _, _, _, _]) ?_
            refine s_val (v := (.int .i64 ((i : Int) + 1))) rfl (r_add (c := (i : Int) + 1) rfl rfl (i64_in (by omega) (by omega))) (rfl : _ = [_, _, _, _, _, _, _, _, _, _, _, _, _, _, _, _, _, _, _, _, _, _, _, _, _, _, _, _, _, _, _, _, _, _, _, _, _, _, _, _, _, _, _, _, _, _, _, _, _, _, _, _, _, _, _, _, _, _, _, _, _, _, _]) ?_
            refine s_val (v := (.int .i64 ((i : Int) + 1))) rfl (r_assign rfl) (rfl : _ = [_, _, _, _, _, _, _, _, _, _, _, _, _, _, _, _, _, _, _, _, _, _, _, _, _, _, _, _, _, _, _, _, _, _, _, _, _, _, _, _, _, _, _, _, _, _, _, _, _, _, _, _, _, _, _, _, _, _, _, _, _, _, _]) ?_
            refine s_nil rfl ?_
            refine x_then ?_
            have hle2 := setL_len ((l.take i).map (·.slot))
            rw [← hset] at hle2
            simp only [List.length_map, List.length_take] at hle2
            have hzz : lessN ex.slot (out0.drop k) = 0 := by first | exact lessN_end (by omega)
            have hlk2 : lessN ex.slot out0 = k := by omega
            have hnew : setL ((l.take (i + 1)).map (·.slot)) = ((([] ++ (out0.take k)) ++ [ex.slot]) ++ (out0.drop k)) := by
              rw [setL_snoc hex, ← hset, insL, hlk2]
              rw [if_neg (fun hh => by first | (rw [List.getElem?_eq_none (by omega)] at hh; cases hh))]
              simp
            refine ⟨_, _, ?_, rfl, (i + 1), ((([] ++ (out0.take k)) ++ [ex.slot]) ++ (out0.drop k)), v432, a395, w433.heap.size, (fun n_ => ([jk9 0, .int .i64 (k : Int), .int .i64 (i : Int), v, .int .i64 (l.length : Int), .bool true, .int .i64 (i : Int), .int .i64 ((i : Int) + 1), .int .i64 (k : Int), out, .int .i64 (out0.length : Int), .bool false, .bool false, undef, undef, undef, undef, undef, undef, undef, undef, undef, undef, .bool false, jk9 17, jk9 18, .int .i64 (k : Int), out, .int .i64 (out0.length : Int), .bool true, .bool true, undef, undef, undef, undef, undef, undef, undef, undef, undef, undef, .bool true, .slice (some ⟨a395, 0, none⟩) 0 0, out, .int .i64 (k : Int), v378, v409, v, .int .i64 (i : Int), .pointer (some ⟨a382, o383, none⟩), .pointer (some ⟨a382, o383 + 0, none⟩), .int .i64 ex.slot, .slice (some ⟨a414, 0, none⟩) 1 1, v421, out, .int .i64 (k : Int), v392, v432] : List Value).getD n_ undef), rfl, rfl, (by omega), hnew.symm, (by omega), hb10, hO434⟩
            omega
          · skip
            refine s_buildSlice (cs := [.int .i64 ex.slot]) (e := 3) 23 1 _ rfl rfl (by kernel_rfl) ?_
            intro a437 w438 he439 hB440 hc441 hz442
            refine norm (rfl : _ = [_, _, _, _, _, _, _, _, _, _, _, _, _, _, _, _, _, _, _, _, _, _, _, _, _, _, _, _, _, _, _, _, _, _, _, _, _, _, _, _, _, _, _, _, _, _, _, _, _, _, _, _, _, _, _, _, _, _, _, _, _, _, _]) ?_
            have hs443 := hc441.size
            replace hb10 := hb10.chg hc441 (by omega)
            replace hr373 := hr373.chg hc441 (by omega)
            replace hO := hO.chg hc441 (by omega)
            replace hB398 := hB398.chg hc441 (by omega)
            refine s_nil rfl ?_
            refine x_h hr373 ?_
            refine h_one 4 (by kernel_rfl) rfl (rfl : _ = [true, true, true, true, true, true, true, true, true, true, true, false, true, true, true, false, false]) ?_
            have hO444 : OwnX kInt 3 0 a395 (a395 + 1) w438 (.slice (some ⟨a395, 0, none⟩) 0 0) [] := OwnX.of_bx (ok := (fun _ => False)) hB398 .nil rfl (by simp [lim]) (by omega) (Nat.le_refl _) (by omega) (by omega) (fun _ hb _ => hb.elim)
            obtain ⟨ad445, c446, ds447, hv448, hF449, had450⟩ := ((hS379.keep (Kept.all hr373))).flat
            refine s_appendX kInt (z := (.int .i64 0)) (bytes := 8) (ys := (out0.take k)) (ok2 := fun _ => False) Try.underlying23 (by kernel_rfl) rfl (by decide) (by decide) (by decide) rfl hO444 hv448 (hF449.any kInt_plain (fun _ => False) _) had450 (fun _ hb _ => hb.elim) (by have hle3 := setL_len ((l.take i).map (·.slot)); rw [← hset] at hle3; simp [lim] at *; omega) ?_
            intro v451 w452 hO453 hc454
            refine norm (rfl : _ = [_, _, _, _, _, _, _, _, _, _, _, _, _, _, _, _, _, _, _, _, _, _, _, _, _, _, _, _, _, _, _, _, _, _, _, _, _, _, _, _, _, _, _, _, _, _, _, _, _, _, _, _, _, _, _, _, _, _, _, _, _, _, _]) ?_
            have hs455 := hc454.size
            replace hb10 := hb10.chg hc454 (by omega)
            replace hr373 := hr373.chg hc454 (by omega)
            replace hO := hO.chg hc454 (by omega)
            replace hB440 := hB440.chg hc454 (by omega)
            refine s_nil rfl ?_
            refine x_h hr373 ?_
            refine h_one 11 (by kernel_rfl) rfl (rfl : _ = [true, true, true, true, true, true, true, true, true, true, true, true, true, true, true, false, false]) ?_
            refine s_appendX kInt (z := (.int .i64 0)) (bytes := 8) (ys := [ex.slot]) (ok2 := fun _ => False) Try.underlying23 (by kernel_rfl) rfl (by decide) (by decide) (by decide) rfl hO453 rfl (flat_one rfl) (had_bx hB440) (fun _ hb _ => hb.elim) (by have hle3 := setL_len ((l.take i).map (·.slot)); rw [← hset] at hle3; simp [lim] at *; omega) ?_
            intro v456 w457 hO458 hc459
            refine norm (rfl : _ = [_, _, _, _, _, _, _, _, _, _, _, _, _, _, _, _, _, _, _, _, _, _, _, _, _, _, _, _, _, _, _, _, _, _, _, _, _, _, _, _, _, _, _, _, _, _, _, _, _, _, _, _, _, _, _, _, _, _, _, _, _, _, _]) ?_
            have hs460 := hc459.size
            replace hb10 := hb10.chg hc459 (by omega)
            replace hr373 := hr373.chg hc459 (by omega)
            replace hO := hO.chg hc459 (by omega)
            refine s_nil rfl ?_
            refine x_h hr373 ?_
            refine h_one 15 (by kernel_rfl) rfl (rfl : _ = [true, true, true, true, true, true, true, true, true, true, true, true, true, true, true, true, false]) ?_
            obtain ⟨ad461, c462, ds463, hv464, hF465, had466⟩ := ((hS393.keep (Kept.all hr373))).flat
            refine s_appendX kInt (z := (.int .i64 0)) (bytes := 8) (ys := (out0.drop k)) (ok2 := fun _ => False) Try.underlying23 (by kernel_rfl) rfl (by decide) (by decide) (by decide) rfl hO458 hv464 (hF465.any kInt_plain (fun _ => False) _) had466 (fun _ hb _ => hb.elim) (by have hle3 := setL_len ((l.take i).map (·.slot)); rw [← hset] at hle3; simp [lim] at *; omega) ?_
            intro v467 w468 hO469 hc470
            refine norm (rfl : _ = [_, _, _, _, _, _, _, _, _, _, _, _, _, _, _, _, _, _, _, _, _, _, _, _, _, _, _, _, _, _, _, _, _, _, _, _, _, _, _, _, _, _, _, _, _, _, _, _, _, _, _, _, _, _, _, _, _, _, _, _, _, _, _]) ?_
            have hs471 := hc470.size
            replace hb10 := hb10.chg hc470 (by omega)
            replace hr373 := hr373.chg hc470 (by omega)
            replace hO := hO.chg hc470 (by omega)
            refine s_nil rfl ?_
            refine x_h hr373 ?_
            refine h_take 16 rfl (by kernel_rfl) (rfl : _ = [true, true, true, true, true, true, true, true, true, true, true, true, true, true, true, true, true]) ?_
            refine h_val (v := v467) rfl (fun w' hC => r_assign rfl) (rfl : _ = [_, _, _, _, _, _, _, _, _, _, _, _, _, _, _, _, _, _, _, _, _, _, _, _, _, _, _, _, _, _, _, _, _, _, _, _, _, _, _, _, _, _, _, _, _, _, _, _, _, _, _, _, _, _, _, _, _, _, _, _, _, _, _]) ?_
            refine h_nil (by kernel_rfl) rfl ?_
            replace hS379 := hS379.keep (Kept.all hr373)
            replace hS393 := hS393.keep (Kept.all hr373)
            replace hd391 := hd391.keep (Kept.all hr373)
            refine x_block ?_
            refine x_seq ?_
            refine c_region ?_
            refine s_val (v := (.int .i64 (i : Int))) rfl (r_move rfl) (rfl : _ = [_, _, _, _, _, _, _, _, _, _, _, _, _, _, _, _, _, _, _, _, _, _, _, _, _, _, _, _, _, _, _, _, _, _, _, _, _, _, _, _, _, _, _, _, _, _, _, _, _, _, _, _, _, _, _, _, _, _, _, _, _, _, _]) ?_
            refine s_val (v := (.int .i64 ((i : Int) + 1))) rfl (r_add (c := (i : Int) + 1) rfl rfl (i64_in (by omega) (by omega))) (rfl : _ = [_, _, _, _, _, _, _, _, _, _, _, _, _, _, _, _, _, _, _, _, _, _, _, _, _, _, _, _, _, _, _, _, _, _, _, _, _, _, _, _, _, _, _, _, _, _, _, _, _, _, _, _, _, _, _, _, _, _, _, _, _, _, _]) ?_
            refine s_val (v := (.int .i64 ((i : Int) + 1))) rfl (r_assign rfl) (rfl : _ = [_, _, _, _, _, _, _, _, _, _, _, _, _, _, _, _, _, _, _, _, _, _, _, _, _, _, _, _, _, _, _, _, _, _, _, _, _, _, _, _, _, _, _, _, _, _, _, _, _, _, _, _, _, _, _, _, _, _, _, _, _, _, _]) ?_
            refine s_nil rfl ?_
            refine x_then ?_
            have hle2 := setL_len ((l.take i).map (·.slot))
            rw [← hset] at hle2
            simp only [List.length_map, List.length_take] at hle2
            have hzz : lessN ex.slot (out0.drop k) = 0 := by first | exact lessN_end (by omega)
            have hlk2 : lessN ex.slot out0 = k := by omega
            have hnew : setL ((l.take (i + 1)).map (·.slot)) = ((([] ++ (out0.take k)) ++ [ex.slot]) ++ (out0.drop k)) := by
              rw [setL_snoc hex, ← hset, insL, hlk2]
              rw [if_neg (fun hh => by first | (rw [List.getElem?_eq_none (by omega)] at hh; cases hh))]
              simp
            refine ⟨_, _, ?_, rfl, (i + 1), ((([] ++ (out0.take k)) ++ [ex.slot]) ++ (out0.drop k)), v467, a395, w468.heap.size, (fun n_ => ([jk9 0, .int .i64 (k : Int), .int .i64 (i : Int), v, .int .i64 (l.length : Int), .bool true, .int .i64 (i : Int), .int .i64 ((i : Int) + 1), .int .i64 (k : Int), out, .int .i64 (out0.length : Int), .bool false, .bool false, undef, undef, undef, undef, undef, undef, undef, undef, undef, undef, .bool false, jk9 17, jk9 18, .int .i64 (k : Int), out, .int .i64 (out0.length : Int), .bool true, .bool true, undef, undef, undef, undef, undef, undef, undef, undef, undef, undef, .bool true, .slice (some ⟨a395, 0, none⟩) 0 0, out, .int .i64 (k : Int), v378, v451, v, .int .i64 (i : Int), .pointer (some ⟨a382, o383, none⟩), .pointer (some ⟨a382, o383 + 0, none⟩), .int .i64 ex.slot, .slice (some ⟨a437, 0, none⟩) 1 1, v456, out, .int .i64 (k : Int), v392, v467] : List Value).getD n_ undef), rfl, rfl, (by omega), hnew.symm, (by omega), hb10, hO469⟩
            omega
        · skip
          refine s_buildSlice (cs := [.int .i64 ex.slot]) (e := 3) 23 1 _ rfl rfl (by kernel_rfl) ?_
          intro a472 w473 he474 hB475 hc476 hz477
          refine norm (rfl : _ = [_, _, _, _, _, _, _, _, _, _, _, _, _, _, _, _, _, _, _, _, _, _, _, _, _, _, _, _, _, _, _, _, _, _, _, _, _, _, _, _, _, _, _, _, _, _, _, _, _, _, _, _, _, _, _, _, _, _, _, _, _, _, _]) ?_
          have hs478 := hc476.size
          replace hb10 := hb10.chg hc476 (by omega)
          replace hr373 := hr373.chg hc476 (by omega)
          replace hO := hO.chg hc476 (by omega)
          refine s_nil rfl ?_
          refine x_h hr373 ?_
          refine h_one 0 (by kernel_rfl) rfl (rfl : _ = [true, true, true, true, false, true, true, true, true, true, true, false, true, true, true, false, false]) ?_
          refine s_buildSlice (cs := []) (e := 3) 23 0 _ rfl rfl (by kernel_rfl) ?_
          intro a479 w480 he481 hB482 hc483 hz484
          refine norm (rfl : _ = [_, _, _, _, _, _, _, _, _, _, _, _, _, _, _, _, _, _, _, _, _, _, _, _, _, _, _, _, _, _, _, _, _, _, _, _, _, _, _, _, _, _, _, _, _, _, _, _, _, _, _, _, _, _, _, _, _, _, _, _, _, _, _]) ?_
          have hs485 := hc483.size
          replace hb10 := hb10.chg hc483 (by omega)
          replace hr373 := hr373.chg hc483 (by omega)
          replace hO := hO.chg hc483 (by omega)
          replace hB475 := hB475.chg hc483 (by omega)
          refine s_nil rfl ?_
          refine x_h hr373 ?_
          refine h_one 4 (by kernel_rfl) rfl (rfl : _ = [true, true, true, true, true, true, true, true, true, true, true, false, true, true, true, false, false]) ?_
          have hO486 : OwnX kInt 3 0 a479 (a479 + 1) w480 (.slice (some ⟨a479, 0, none⟩) 0 0) [] := OwnX.of_bx (ok := (fun _ => False)) hB482 .nil rfl (by simp [lim]) (by omega) (Nat.le_refl _) (by omega) (by omega) (fun _ hb _ => hb.elim)
          obtain ⟨ad487, c488, ds489, hv490, hF491, had492⟩ := ((hS379.keep (Kept.all hr373))).flat
          refine s_appendX kInt (z := (.int .i64 0)) (bytes := 8) (ys := (out0.take k)) (ok2 := fun _ => False) Try.underlying23 (by kernel_rfl) rfl (by decide) (by decide) (by decide) rfl hO486 hv490 (hF491.any kInt_plain (fun _ => False) _) had492 (fun _ hb _ => hb.elim) (by have hle3 := setL_len ((l.take i).map (·.slot)); rw [← hset] at hle3; simp [lim] at *; omega) ?_
          intro v493 w494 hO495 hc496
          refine norm (rfl : _ = [_, _, _, _, _, _, _, _, _, _, _, _, _, _, _, _, _, _, _, _, _, _, _, _, _, _, _, _, _, _, _, _, _, _, _, _, _, _, _, _, _, _, _, _, _, _, _, _, _, _, _, _, _, _, _, _, _, _, _, _, _, _, _]) ?_
          have hs497 := hc496.size
          replace hb10 := hb10.chg hc496 (by omega)
          replace hr373 := hr373.chg hc496 (by omega)
          replace hO := hO.chg hc496 (by omega)
          replace hB475 := hB475.chg hc496 (by omega)
          refine s_nil rfl ?_
          refine x_h hr373 ?_
          refine h_one 11 (by kernel_rfl) rfl (rfl : _ = [true, true, true, true, true, true, true, true, true, true, true, true, true, true, true, false, false]) ?_
          refine s_appendX kInt (z := (.int .i64 0)) (bytes := 8) (ys := [ex.slot]) (ok2 := fun _ => False) Try.underlying23 (by kernel_rfl) rfl (by decide) (by decide) (by decide) rfl hO495 rfl (flat_one rfl) (had_bx hB475) (fun _ hb _ => hb.elim) (by have hle3 := setL_len ((l.take i).map (·.slot)); rw [← hset] at hle3; simp [lim] at *; omega) ?_
          intro v498 w499 hO500 hc501
          refine norm (rfl : _ = [_, _, _, _, _, _, _, _, _, _, _, _, _, _, _, _, _, _, _, _, _, _, _, _, _, _, _, _, _, _, _, _, _, _, _, _, _, _, _, _, _, _, _, _, _, _, _, _, _, _, _, _, _, _, _, _, _, _, _, _, _, _, _]) ?_
          have hs502 := hc501.size
          replace hb10 := hb10.chg hc501 (by omega)
          replace hr373 := hr373.chg hc501 (by omega)
          replace hO := hO.chg hc501 (by omega)
          refine s_nil rfl ?_
          refine x_h hr373 ?_
          refine h_one 15 (by kernel_rfl) rfl (rfl : _ = [true, true, true, true, true, true, true, true, true, true, true, true, true, true, true, true, false]) ?_
          obtain ⟨ad503, c504, ds505, hv506, hF507, had508⟩ := ((hS393.keep (Kept.all hr373))).flat
          refine s_appendX kInt (z := (.int .i64 0)) (bytes := 8) (ys := (out0.drop k)) (ok2 := fun _ => False) Try.underlying23 (by kernel_rfl) rfl (by decide) (by decide) (by decide) rfl hO500 hv506 (hF507.any kInt_plain (fun _ => False) _) had508 (fun _ hb _ => hb.elim) (by have hle3 := setL_len ((l.take i).map (·.slot)); rw [← hset] at hle3; simp [lim] at *; omega) ?_
          intro v509 w510 hO511 hc512
          refine norm (rfl : _ = [_, _, _, _, _, _, _, _, _, _, _, _, _, _, _, _, _, _, _, _, _, _, _, _, _, _, _, _, _, _, _, _, _, _, _, _, _, _, _, _, _, _, _, _, _, _, _, _, _, _, _, _, _, _, _, _, _, _, _, _, _, _, _]) ?_
          have hs513 := hc512.size
          replace hb10 := hb10.chg hc512 (by omega)
          replace hr373 := hr373.chg hc512 (by omega)
          replace hO := hO.chg hc512 (by omega)
          refine s_nil rfl ?_
          refine x_h hr373 ?_
          refine h_take 16 rfl (by kernel_rfl) (rfl : _ = [true, true, true, true, true, true, true, true, true, true, true, true, true, true, true, true, true]) ?_
          refine h_val (v := v509) rfl (fun w' hC => r_assign rfl) (rfl : _ = [_, _, _, _, _, _, _, _, _, _, _, _, _, _, _, _, _, _, _, _, _, _, _, _, _, _, _, _, _, _, _, _, _, _, _, _, _, _, _, _, _, _, _, _, _, _, _, _, _, _, _, _, _, _, _, _, _, _, _, _, _, _, _]) ?_
          refine h_nil (by kernel_rfl) rfl ?_
          replace hS379 := hS379.keep (Kept.all hr373)
          replace hS393 := hS393.keep (Kept.all hr373)
          replace hd391 := hd391.keep (Kept.all hr373)
          refine x_block ?_
          refine x_seq ?_
          refine c_region ?_
          refine s_val (v := (.int .i64 (i : Int))) rfl (r_move rfl) (rfl : _ = [_, _, _, _, _, _, _, _, _, _, _, _, _, _, _, _, _, _, _, _, _, _, _, _, _, _, _, _, _, _, _, _, _, _, _, _, _, _, _, _, _, _, _, _, _, _, _, _, _, _, _, _, _, _, _, _, _, _, _, _, _, _, _]) ?_
          refine s_val (v := (.int .i64 ((i : Int) + 1))) rfl (r_add (c := (i : Int) + 1) rfl rfl (i64_in (by omega) (by omega))) (rfl : _ = [_, _, _, _, _, _, _, _, _, _, _, _, _, _, _, _, _, _, _, _, _, _, _, _, _, _, _, _, _, _, _, _, _, _, _, _, _, _, _, _, _, _, _, _, _, _, _, _, _, _, _, _, _, _, _, _, _, _, _, _, _, _, _]) ?_
          refine s_val (v := (.int .i64 ((i : Int) + 1))) rfl (r_assign rfl) (rfl : _ = [_, _, _, _, _, _, _, _, _, _, _, _, _, _, _, _, _, _, _, _, _, _, _, _, _, _, _, _, _, _, _, _, _, _, _, _, _, _, _, _, _, _, _, _, _, _, _, _, _, _, _, _, _, _, _, _, _, _, _, _, _, _, _]) ?_
          refine s_nil rfl ?_
          refine x_then ?_
          have hle2 := setL_len ((l.take i).map (·.slot))
          rw [← hset] at hle2
          simp only [List.length_map, List.length_take] at hle2
          have hzz : lessN ex.slot (out0.drop k) = 0 := by first | exact lessN_end (by omega)
          have hlk2 : lessN ex.slot out0 = k := by omega
          have hnew : setL ((l.take (i + 1)).map (·.slot)) = ((([] ++ (out0.take k)) ++ [ex.slot]) ++ (out0.drop k)) := by
            rw [setL_snoc hex, ← hset, insL, hlk2]
            rw [if_neg (fun hh => by first | (rw [List.getElem?_eq_none (by omega)] at hh; cases hh))]
            simp
          refine ⟨_, _, ?_, rfl, (i + 1), ((([] ++ (out0.take k)) ++ [ex.slot]) ++ (out0.drop k)), v509, a479, w510.heap.size, (fun n_ => ([jk9 0, .int .i64 (k : Int), .int .i64 (i : Int), v, .int .i64 (l.length : Int), .bool true, .int .i64 (i : Int), .int .i64 ((i : Int) + 1), .int .i64 (k : Int), out, .int .i64 (out0.length : Int), .bool false, .bool false, undef, undef, undef, undef, undef, undef, undef, undef, undef, undef, .bool false, jk9 17, jk9 18, .int .i64 (k : Int), out, .int .i64 (out0.length : Int), .bool true, .bool true, undef, undef, undef, undef, undef, undef, undef, undef, undef, undef, .bool true, .slice (some ⟨a479, 0, none⟩) 0 0, out, .int .i64 (k : Int), v378, v493, v, .int .i64 (i : Int), .pointer (some ⟨a382, o383, none⟩), .pointer (some ⟨a382, o383 + 0, none⟩), .int .i64 ex.slot, .slice (some ⟨a472, 0, none⟩) 1 1, v498, out, .int .i64 (k : Int), v392, v509] : List Value).getD n_ undef), rfl, rfl, (by omega), hnew.symm, (by omega), hb10, hO511⟩
          omega
      | false =>
        replace hb365 := bf hb365
        refine q_val (v := out) (wan_t (dj := 34) rfl rfl) (fun w' hC => r_move rfl) (rfl : _ = [_, _, _, _, _, _, _, _, _, _, _, _, _, _, _, _, _, _, _, _, _, _, _, _, _, _, _, _, _, _, _, _, _, _, _, _, _, _, _, _, _, _, _, _, _, _, _, _, _, _, _, _, _, _, _, _, _, _, _, _, _, _, _]) ?_
        refine q_val (v := (.int .i64 (k : Int))) (wan_t (dj := 34) rfl rfl) (fun w' hC => r_move rfl) (rfl : _ = [_, _, _, _, _, _, _, _, _, _, _, _, _, _, _, _, _, _, _, _, _, _, _, _, _, _, _, _, _, _, _, _, _, _, _, _, _, _, _, _, _, _, _, _, _, _, _, _, _, _, _, _, _, _, _, _, _, _, _, _, _, _, _]) ?_
        obtain ⟨e514, a515, o516, c517, he518, hc519, hr520, hk521, hi522⟩ := hO.sl.idx (j := (k : Int)) (by omega) (by omega)
        rw [Int.toNat_natCast] at he518
        obtain rfl : c517 = [.int .i64 e514] := hc519
        refine q_val (wan_t (dj := 34) rfl rfl) (fun w' hC => hi522 _ _ _ _ _ _ _ (by kernel_rfl) rfl rfl) (rfl : _ = [_, _, _, _, _, _, _, _, _, _, _, _, _, _, _, _, _, _, _, _, _, _, _, _, _, _, _, _, _, _, _, _, _, _, _, _, _, _, _, _, _, _, _, _, _, _, _, _, _, _, _, _, _, _, _, _, _, _, _, _, _, _, _]) ?_
        refine q_val (v := (.int .i64 e514)) (wan_t (dj := 34) rfl rfl) (fun w' hC => r_load rfl (Ld.one Try.underlying3 rfl ((range_below hr520 hC) 0 _ rfl))) (rfl : _ = [_, _, _, _, _, _, _, _, _, _, _, _, _, _, _, _, _, _, _, _, _, _, _, _, _, _, _, _, _, _, _, _, _, _, _, _, _, _, _, _, _, _, _, _, _, _, _, _, _, _, _, _, _, _, _, _, _, _, _, _, _, _, _]) ?_
        refine q_val (v := v) (wan_t (dj := 34) rfl rfl) (fun w' hC => r_move rfl) (rfl : _ = [_, _, _, _, _, _, _, _, _, _, _, _, _, _, _, _, _, _, _, _, _, _, _, _, _, _, _, _, _, _, _, _, _, _, _, _, _, _, _, _, _, _, _, _, _, _, _, _, _, _, _, _, _, _, _, _, _, _, _, _, _, _, _]) ?_
        refine q_val (v := (.int .i64 (i : Int))) (wan_t (dj := 34) rfl rfl) (fun w' hC => r_move rfl) (rfl : _ = [_, _, _, _, _, _, _, _, _, _, _, _, _, _, _, _, _, _, _, _, _, _, _, _, _, _, _, _, _, _, _, _, _, _, _, _, _, _, _, _, _, _, _, _, _, _, _, _, _, _, _, _, _, _, _, _, _, _, _, _, _, _, _]) ?_
        obtain ⟨e523, a524, o525, c526, he527, hc528, hr529, hk530, hi531⟩ := (hS.at_ hb10).idx (j := (i : Int)) (by omega) (by omega)
        rw [Int.toNat_natCast] at he527
        rw [hex] at he527
        injection he527 with he527
        subst he527
        obtain ⟨d532, rfl, hd533⟩ := kVot_cells.1 hc528
        refine q_val (wan_t (dj := 34) rfl rfl) (fun w' hC => hi531 _ _ _ _ _ _ _ (by kernel_rfl) rfl rfl) (rfl : _ = [_, _, _, _, _, _, _, _, _, _, _, _, _, _, _, _, _, _, _, _, _, _, _, _, _, _, _, _, _, _, _, _, _, _, _, _, _, _, _, _, _, _, _, _, _, _, _, _, _, _, _, _, _, _, _, _, _, _, _, _, _, _, _]) ?_
        refine q_val (v := (.pointer (some ⟨a524, o525 + 0, none⟩))) (wan_t (dj := 34) rfl rfl) (fun w' hC => r_field (k := 0) (o := o525) (by kernel_rfl) rfl) (rfl : _ = [_, _, _, _, _, _, _, _, _, _, _, _, _, _, _, _, _, _, _, _, _, _, _, _, _, _, _, _, _, _, _, _, _, _, _, _, _, _, _, _, _, _, _, _, _, _, _, _, _, _, _, _, _, _, _, _, _, _, _, _, _, _, _]) ?_
        refine q_val (v := (.int .i64 ex.slot)) (wan_t (dj := 34) rfl rfl) (fun w' hC => r_load rfl (Ld.one Try.underlying3 rfl ((range_below hr529 hC) 0 _ rfl))) (rfl : _ = [_, _, _, _, _, _, _, _, _, _, _, _, _, _, _, _, _, _, _, _, _, _, _, _, _, _, _, _, _, _, _, _, _, _, _, _, _, _, _, _, _, _, _, _, _, _, _, _, _, _, _, _, _, _, _, _, _, _, _, _, _, _, _]) ?_
        refine q_bool (p := (e514 ≠ ex.slot : Prop)) (wan_t (dj := 34) rfl rfl) (fun w' hC => r_nei rfl rfl) nei_iff ?_
        intro b534 hb534
        refine q_norm (rfl : _ = [_, _, _, _, _, _, _, _, _, _, _, _, _, _, _, _, _, _, _, _, _, _, _, _, _, _, _, _, _, _, _, _, _, _, _, _, _, _, _, _, _, _, _, _, _, _, _, _, _, _, _, _, _, _, _, _, _, _, _, _, _, _, _]) ?_
        refine q_val (v := (.bool b534)) rfl (fun w' hC => r_pick rfl rfl) (rfl : _ = [_, _, _, _, _, _, _, _, _, _, _, _, _, _, _, _, _, _, _, _, _, _, _, _, _, _, _, _, _, _, _, _, _, _, _, _, _, _, _, _, _, _, _, _, _, _, _, _, _, _, _, _, _, _, _, _, _, _, _, _, _, _, _]) ?_
        refine q_nil rfl ?_
        intro w535 hq536
        have hc537 := Chg.of_bel hq536
        have hs538 := hc537.size
        replace hb10 := hb10.chg hc537 (by omega)
        replace hO := hO.chg hc537 (by omega)
        replace hd533 := hd533.chg hc537 (by omega)
        refine x_seq ?_
        cases b534 with
        | true =>
          replace hb534 := bt hb534
          refine c_cond rfl (fun _ => ?_) (fun hh => by cases hh)
          refine c_held (by kernel_rfl) (by kernel_rfl) rfl rfl ?_
          intro w539 hb540 hz541
          have hc543 := Chg.of_bel hb540
          have hs544 := hc543.size
          replace hb10 := hb10.chg hc543 (by omega)
          replace hO := hO.chg hc543 (by omega)
          replace hd533 := hd533.chg hc543 (by omega)
          have hr542 := Bel.refl w539
          have hbz545 := hb10
          have hOz546 := hO
          have hdz547 := hd533
          refine h_take 1 rfl (by kernel_rfl) (rfl : _ = [false, true, false, false, false, false, false, false, false, false, false, false, false, false, false, false, false]) ?_
          refine h_val (v := out) rfl (fun w' hC => r_move rfl) (rfl : _ = [_, _, _, _, _, _, _, _, _, _, _, _, _, _, _, _, _, _, _, _, _, _, _, _, _, _, _, _, _, _, _, _, _, _, _, _, _, _, _, _, _, _, _, _, _, _, _, _, _, _, _, _, _, _, _, _, _, _, _, _, _, _, _]) ?_
          refine h_take 2 rfl (by kernel_rfl) (rfl : _ = [false, true, true, false, false, false, false, false, false, false, false, false, false, false, false, false, false]) ?_
          refine h_val (v := (.int .i64 (k : Int))) rfl (fun w' hC => r_move rfl) (rfl : _ = [_, _, _, _, _, _, _, _, _, _, _, _, _, _, _, _, _, _, _, _, _, _, _, _, _, _, _, _, _, _, _, _, _, _, _, _, _, _, _, _, _, _, _, _, _, _, _, _, _, _, _, _, _, _, _, _, _, _, _, _, _, _, _]) ?_
          refine h_take 3 rfl (by kernel_rfl) (rfl : _ = [false, true, true, true, false, false, false, false, false, false, false, false, false, false, false, false, false]) ?_
          obtain ⟨v548, hS549, hk550⟩ := ((hOz546.sl)).take (i := (k : Int)) (by omega) (by omega)
          rw [Int.toNat_natCast] at hS549
          refine h_val rfl (fun w' hC => hk550 _ _ _ _ _ _ _ (by kernel_rfl) rfl rfl) (rfl : _ = [_, _, _, _, _, _, _, _, _, _, _, _, _, _, _, _, _, _, _, _, _, _, _, _, _, _, _, _, _, _, _, _, _, _, _, _, _, _, _, _, _, _, _, _, _, _, _, _, _, _, _, _, _, _, _, _, _, _, _, _, _, _, _]) ?_
          refine h_take 5 rfl (by kernel_rfl) (rfl : _ = [false, true, true, true, false, true, false, false, false, false, false, false, false, false, false, false, false]) ?_
          refine h_val (v := v) rfl (fun w' hC => r_move rfl) (rfl : _ = [_, _, _, _, _, _, _, _, _, _, _, _, _, _, _, _, _, _, _, _, _, _, _, _, _, _, _, _, _, _, _, _, _, _, _, _, _, _, _, _, _, _, _, _, _, _, _, _, _, _, _, _, _, _, _, _, _, _, _, _, _, _, _]) ?_
          refine h_take 6 rfl (by kernel_rfl) (rfl : _ = [false, true, true, true, false, true, true, false, false, false, false, false, false, false, false, false, false]) ?_
          refine h_val (v := (.int .i64 (i : Int))) rfl (fun w' hC => r_move rfl) (rfl : _ = [_, _, _, _, _, _, _, _, _, _, _, _, _, _, _, _, _, _, _, _, _, _, _, _, _, _, _, _, _, _, _, _, _, _, _, _, _, _, _, _, _, _, _, _, _, _, _, _, _, _, _, _, _, _, _, _, _, _, _, _, _, _, _]) ?_
          refine h_take 7 rfl (by kernel_rfl) (rfl : _ = [false, true, true, true, false, true, true, true, false, false, false, false, false, false, false, false, false]) ?_
          obtain ⟨e551, a552, o553, c554, he555, hc556, hr557, hk558, hi559⟩ := ((hS.at_ hbz545)).idx (j := (i : Int)) (by omega) (by omega)
          rw [Int.toNat_natCast] at he555
          rw [hex] at he555
          injection he555 with he555
          subst he555
          obtain ⟨d560, rfl, hd561⟩ := kVot_cells.1 hc556
          refine h_val rfl (fun w' hC => hi559 _ _ _ _ _ _ _ (by kernel_rfl) rfl rfl) (rfl : _ = [_, _, _, _, _, _, _, _, _, _, _, _, _, _, _, _, _, _, _, _, _, _, _, _, _, _, _, _, _, _, _, _, _, _, _, _, _, _, _, _, _, _, _, _, _, _, _, _, _, _, _, _, _, _, _, _, _, _, _, _, _, _, _]) ?_
          refine h_take 8 rfl (by kernel_rfl) (rfl : _ = [false, true, true, true, false, true, true, true, true, false, false, false, false, false, false, false, false]) ?_
          refine h_val (v := (.pointer (some ⟨a552, o553 + 0, none⟩))) rfl (fun w' hC => r_field (k := 0) (o := o553) (by kernel_rfl) rfl) (rfl : _ = [_, _, _, _, _, _, _, _, _, _, _, _, _, _, _, _, _, _, _, _, _, _, _, _, _, _, _, _, _, _, _, _, _, _, _, _, _, _, _, _, _, _, _, _, _, _, _, _, _, _, _, _, _, _, _, _, _, _, _, _, _, _, _]) ?_
          refine h_take 9 rfl (by kernel_rfl) (rfl : _ = [false, true, true, true, false, true, true, true, true, true, false, false, false, false, false, false, false]) ?_
          refine h_val (v := (.int .i64 ex.slot)) rfl (fun w' hC => r_load rfl (Ld.one Try.underlying3 rfl ((range_below hr557 hC) 0 _ rfl))) (rfl : _ = [_, _, _, _, _, _, _, _, _, _, _, _, _, _, _, _, _, _, _, _, _, _, _, _, _, _, _, _, _, _, _, _, _, _, _, _, _, _, _, _, _, _, _, _, _, _, _, _, _, _, _, _, _, _, _, _, _, _, _, _, _, _, _]) ?_
          refine h_take 12 rfl (by kernel_rfl) (rfl : _ = [false, true, true, true, false, true, true, true, true, true, false, false, true, false, false, false, false]) ?_
          refine h_val (v := out) rfl (fun w' hC => r_move rfl) (rfl : _ = [_, _, _, _, _, _, _, _, _, _, _, _, _, _, _, _, _, _, _, _, _, _, _, _, _, _, _, _, _, _, _, _, _, _, _, _, _, _, _, _, _, _, _, _, _, _, _, _, _, _, _, _, _, _, _, _, _, _, _, _, _, _, _]) ?_
          refine h_take 13 rfl (by kernel_rfl) (rfl : _ = [false, true, true, true, false, true, true, true, true, true, false, false, true, true, false, false, false]) ?_
          refine h_val (v := (.int .i64 (k : Int))) rfl (fun w' hC => r_move rfl) (rfl : _ = [_, _, _, _, _, _, _, _, _, _, _, _, _, _, _, _, _, _, _, _, _, _, _, _, _, _, _, _, _, _, _, _, _, _, _, _, _, _, _, _, _, _, _, _, _, _, _, _, _, _, _, _, _, _, _, _, _, _, _, _, _, _, _]) ?_
          refine h_take 14 rfl (by kernel_rfl) (rfl : _ = [false, true, true, true, false, true, true, true, true, true, false, false, true, true, true, false, false]) ?_
          obtain ⟨v562, hS563, hk564⟩ := ((hOz546.sl)).drop (i := (k : Int)) (by omega) (by omega)
          rw [Int.toNat_natCast] at hS563
          refine h_val rfl (fun w' hC => hk564 _ _ _ _ _ _ _ (by kernel_rfl) rfl rfl) (rfl : _ = [_, _, _, _, _, _, _, _, _, _, _, _, _, _, _, _, _, _, _, _, _, _, _, _, _, _, _, _, _, _, _, _, _, _, _, _, _, _, _, _, _, _, _, _, _, _, _, _, _, _, _, _, _, _, _, _, _, _, _, _, _, _, _]) ?_
          refine h_two 0 10 (by kernel_rfl) rfl rfl (rfl : _ = [true, true, true, true, false, true, true, true, true, true, false, false, true, true, true, false, false]) (rfl : _ = [false, true, true, true, false, true, true, true, true, true, true, false, true, true, true, false, false]) ?_ ?_
          · skip
            refine s_buildSlice (cs := []) (e := 3) 23 0 _ rfl rfl (by kernel_rfl) ?_
            intro a565 w566 he567 hB568 hc569 hz570
            refine norm (rfl : _ = [_, _, _, _, _, _, _, _, _, _, _, _, _, _, _, _, _, _, _, _, _, _, _, _, _, _, _, _, _, _, _, _, _, _, _, _, _, _, _, _, _, _, _, _, _, _, _, _, _, _, _, _, _, _, _, _, _, _, _, _, _, _, _]) ?_
            have hs571 := hc569.size
            replace hb10 := hb10.chg hc569 (by omega)
            replace hr542 := hr542.chg hc569 (by omega)
            replace hO := hO.chg hc569 (by omega)
            replace hd533 := hd533.chg hc569 (by omega)
            refine s_nil rfl ?_
            refine x_h hr542 ?_
            refine h_two 4 10 (by kernel_rfl) rfl rfl (rfl : _ = [true, true, true, true, true, true, true, true, true, true, false, false, true, true, true, false, false]) (rfl : _ = [true, true, true, true, false, true, true, true, true, true, true, false, true, true, true, false, false]) ?_ ?_
            · skip
              have hO572 : OwnX kInt 3 0 a565 (a565 + 1) w566 (.slice (some ⟨a565, 0, none⟩) 0 0) [] := OwnX.of_bx (ok := (fun _ => False)) hB568 .nil rfl (by simp [lim]) (by omega) (Nat.le_refl _) (by omega) (by omega) (fun _ hb _ => hb.elim)
              obtain ⟨ad573, c574, ds575, hv576, hF577, had578⟩ := ((hS549.keep (Kept.all hr542))).flat
              refine s_appendX kInt (z := (.int .i64 0)) (bytes := 8) (ys := (out0.take k)) (ok2 := fun _ => False) Try.underlying23 (by kernel_rfl) rfl (by decide) (by decide) (by decide) rfl hO572 hv576 (hF577.any kInt_plain (fun _ => False) _) had578 (fun _ hb _ => hb.elim) (by have hle3 := setL_len ((l.take i).map (·.slot)); rw [← hset] at hle3; simp [lim] at *; omega) ?_
              intro v579 w580 hO581 hc582
              refine norm (rfl : _ = [_, _, _, _, _, _, _, _, _, _, _, _, _, _, _, _, _, _, _, _, _, _, _, _, _, _, _, _, _, _, _, _, _, _, _, _, _, _, _, _, _, _, _, _, _, _, _, _, _, _, _, _, _, _, _, _, _, _, _, _, _, _, _]) ?_
              have hs583 := hc582.size
              replace hb10 := hb10.chg hc582 (by omega)
              replace hr542 := hr542.chg hc582 (by omega)
              replace hO := hO.chg hc582 (by omega)
              replace hd533 := hd533.chg hc582 (by omega)
              refine s_nil rfl ?_
              refine x_h hr542 ?_
              refine h_one 10 (by kernel_rfl) rfl (rfl : _ = [true, true, true, true, true, true, true, true, true, true, true, false, true, true, true, false, false]) ?_
              refine s_buildSlice (cs := [.int .i64 ex.slot]) (e := 3) 23 1 _ rfl rfl (by kernel_rfl) ?_
              intro a584 w585 he586 hB587 hc588 hz589
              refine norm (rfl : _ = [_, _, _, _, _, _, _, _, _, _, _, _, _, _, _, _, _, _, _, _, _, _, _, _, _, _, _, _, _, _, _, _, _, _, _, _, _, _, _, _, _, _, _, _, _, _, _, _, _, _, _, _, _, _, _, _, _, _, _, _, _, _, _]) ?_
              have hs590 := hc588.size
              replace hb10 := hb10.chg hc588 (by omega)
              replace hr542 := hr542.chg hc588 (by omega)
              replace hO := hO.chg hc588 (by omega)
              replace hd533 := hd533.chg hc588 (by omega)
              replace hO581 := hO581.chg hc588 (by omega)
              refine s_nil rfl ?_
              refine x_h hr542 ?_
              refine h_one 11 (by kernel_rfl) rfl (rfl : _ = [true, true, true, true, true, true, true, true, true, true, true, true, true, true, true, false, false]) ?_
              refine s_appendX kInt (z := (.int .i64 0)) (bytes := 8) (ys := [ex.slot]) (ok2 := fun _ => False) Try.underlying23 (by kernel_rfl) rfl (by decide) (by decide) (by decide) rfl hO581 rfl (flat_one rfl) (had_bx hB587) (fun _ hb _ => hb.elim) (by have hle3 := setL_len ((l.take i).map (·.slot)); rw [← hset] at hle3; simp [lim] at *; omega) ?_
              intro v591 w592 hO593 hc594
              refine norm (rfl : _ = [_, _, _, _, _, _, _, _, _, _, _, _, _, _, _, _, _, _, _, _, _, _, _, _, _, _, _, _, _, _, _, _, _, _, _, _, _, _, _, _, _, _, _, _, _, _, _, _, _, _, _, _, _, _, _, _, _, _, _, _, _, _, _]) ?_
              have hs595 := hc594.size
              replace hb10 := hb10.chg hc594 (by omega)
              replace hr542 := hr542.chg hc594 (by omega)
              replace hO := hO.chg hc594 (by omega)
              replace hd533 := hd533.chg hc594 (by omega)
              refine s_nil rfl ?_
              refine x_h hr542 ?_
              refine h_one 15 (by kernel_rfl) rfl (rfl : _ = [true, true, true, true, true, true, true, true, true, true, true, true, true, true, true, true, false]) ?_
              obtain ⟨ad596, c597, ds598, hv599, hF600, had601⟩ := ((hS563.keep (Kept.all hr542))).flat
              refine s_appendX kInt (z := (.int .i64 0)) (bytes := 8) (ys := (out0.drop k)) (ok2 := fun _ => False) Try.underlying23 (by kernel_rfl) rfl (by decide) (by decide) (by decide) rfl hO593 hv599 (hF600.any kInt_plain (fun _ => False) _) had601 (fun _ hb _ => hb.elim) (by have hle3 := setL_len ((l.take i).map (·.slot)); rw [← hset] at hle3; simp [lim] at *; omega) ?_
              intro v602 w603 hO604 hc605
              refine norm (rfl : _ = [_, _, _, _, _, _, _, _, _, _, _, _, _, _, _, _, _, _, _, _, _, _, _, _, _, _, _, _, _, _, _, _, _, _, _, _, _, _, _, _, _, _, _, _, _, _, _, _, _, _, _, _, _, _, _, _, _, _, _, _, _, _, _]) ?_
              have hs606 := hc605.size
              replace hb10 := hb10.chg hc605 (by omega)
              replace hr542 := hr542.chg hc605 (by omega)
              replace hO := hO.chg hc605 (by omega)
              replace hd533 := hd533.chg hc605 (by omega)
              refine s_nil rfl ?_
              refine x_h hr542 ?_
              refine h_take 16 rfl (by kernel_rfl) (rfl : _ = [true, true, true, true, true, true, true, true, true, true, true, true, true, true, true, true, true]) ?_
              refine h_val (v := v602) rfl (fun w' hC => r_assign rfl) (rfl : _ = [_, _, _, _, _, _, _, _, _, _, _, _, _, _, _, _, _, _, _, _, _, _, _, _, _, _, _, _, _, _, _, _, _, _, _, _, _, _, _, _, _, _, _, _, _, _, _, _, _, _, _, _, _, _, _, _, _, _, _, _, _, _, _]) ?_
              refine h_nil (by kernel_rfl) rfl ?_
              replace hS549 := hS549.keep (Kept.all hr542)
              replace hS563 := hS563.keep (Kept.all hr542)
              replace hd561 := hd561.keep (Kept.all hr542)
              refine x_block ?_
              refine x_seq ?_
              refine c_region ?_
              refine s_val (v := (.int .i64 (i : Int))) rfl (r_move rfl) (rfl : _ = [_, _, _, _, _, _, _, _, _, _, _, _, _, _, _, _, _, _, _, _, _, _, _, _, _, _, _, _, _, _, _, _, _, _, _, _, _, _, _, _, _, _, _, _, _, _, _, _, _, _, _, _, _, _, _, _, _, _, _, _, _, _, _]) ?_
              refine s_val (v := (.int .i64 ((i : Int) + 1))) rfl (r_add (c := (i : Int) + 1) rfl rfl (i64_in (by omega) (by omega))) (rfl : _ = [_, _, _, _, _, _, _, _, _, _, _, _, _, _, _, _, _, _, _, _, _, _, _, _, _, _, _, _, _, _, _, _, _, _, _, _, _, _, _, _, _, _, _, _, _, _, _, _, _, _, _, _, _, _, _, _, _, _, _, _, _, _, _]) ?_
              refine s_val (v := (.int .i64 ((i : Int) + 1))) rfl (r_assign rfl) (rfl : _ = [_, _, _, _, _, _, _, _, _, _, _, _, _, _, _, _, _, _, _, _, _, _, _, _, _, _, _, _, _, _, _, _, _, _, _, _, _, _, _, _, _, _, _, _, _, _, _, _, _, _, _, _, _, _, _, _, _, _, _, _, _, _, _]) ?_
              refine s_nil rfl ?_
              refine x_then ?_
              have hle2 := setL_len ((l.take i).map (·.slot))
              rw [← hset] at hle2
              simp only [List.length_map, List.length_take] at hle2
              have hzz : lessN ex.slot (out0.drop k) = 0 := by first | exact lessN_end (by omega) | exact lessN_stop he518 (by assumption)
              have hlk2 : lessN ex.slot out0 = k := by omega
              have hnew : setL ((l.take (i + 1)).map (·.slot)) = ((([] ++ (out0.take k)) ++ [ex.slot]) ++ (out0.drop k)) := by
                rw [setL_snoc hex, ← hset, insL, hlk2]
                rw [if_neg (fun hh => by first | (rw [List.getElem?_eq_none (by omega)] at hh; cases hh) | (rw [he518] at hh; injection hh with hh; exact absurd hh (by assumption)))]
                simp
              refine ⟨_, _, ?_, rfl, (i + 1), ((([] ++ (out0.take k)) ++ [ex.slot]) ++ (out0.drop k)), v602, a565, w603.heap.size, (fun n_ => ([jk9 0, .int .i64 (k : Int), .int .i64 (i : Int), v, .int .i64 (l.length : Int), .bool true, .int .i64 (i : Int), .int .i64 ((i : Int) + 1), .int .i64 (k : Int), out, .int .i64 (out0.length : Int), .bool false, .bool false, undef, undef, undef, undef, undef, undef, undef, undef, undef, undef, .bool false, jk9 17, jk9 18, .int .i64 (k : Int), out, .int .i64 (out0.length : Int), .bool false, .bool false, out, .int .i64 (k : Int), .pointer (some ⟨a515, o516, none⟩), .int .i64 e514, v, .int .i64 (i : Int), .pointer (some ⟨a524, o525, none⟩), .pointer (some ⟨a524, o525 + 0, none⟩), .int .i64 ex.slot, .bool true, .bool true, .slice (some ⟨a565, 0, none⟩) 0 0, out, .int .i64 (k : Int), v548, v579, v, .int .i64 (i : Int), .pointer (some ⟨a552, o553, none⟩), .pointer (some ⟨a552, o553 + 0, none⟩), .int .i64 ex.slot, .slice (some ⟨a584, 0, none⟩) 1 1, v591, out, .int .i64 (k : Int), v562, v602] : List Value).getD n_ undef), rfl, rfl, (by omega), hnew.symm, (by omega), hb10, hO604⟩
              omega
            · skip
              refine s_buildSlice (cs := [.int .i64 ex.slot]) (e := 3) 23 1 _ rfl rfl (by kernel_rfl) ?_
              intro a607 w608 he609 hB610 hc611 hz612
              refine norm (rfl : _ = [_, _, _, _, _, _, _, _, _, _, _, _, _, _, _, _, _, _, _, _, _, _, _, _, _, _, _, _, _, _, _, _, _, _, _, _, _, _, _, _, _, _, _, _, _, _, _, _, _, _, _, _, _, _, _, _, _, _, _, _, _, _, _]) ?_
              have hs613 := hc611.size
              replace hb10 := hb10.chg hc611 (by omega)
              replace hr542 := hr542.chg hc611 (by omega)
              replace hO := hO.chg hc611 (by omega)
              replace hd533 := hd533.chg hc611 (by omega)
              replace hB568 := hB568.chg hc611 (by omega)
              refine s_nil rfl ?_
              refine x_h hr542 ?_
              refine h_one 4 (by kernel_rfl) rfl (rfl : _ = [true, true, true, true, true, true, true, true, true, true, true, false, true, true, true, false, false]) ?_
              have hO614 : OwnX kInt 3 0 a565 (a565 + 1) w608 (.slice (some ⟨a565, 0, none⟩) 0 0) [] := OwnX.of_bx (ok := (fun _ => False)) hB568 .nil rfl (by simp [lim]) (by omega) (Nat.le_refl _) (by omega) (by omega) (fun _ hb _ => hb.elim)
              obtain ⟨ad615, c616, ds617, hv618, hF619, had620⟩ := ((hS549.keep (Kept.all hr542))).flat
              refine s_appendX kInt (z := (.int .i64 0)) (bytes := 8) (ys := (out0.take k)) (ok2 := fun _ => False) Try.underlying23 (by kernel_rfl) rfl (by decide) (by decide) (by decide) rfl hO614 hv618 (hF619.any kInt_plain (fun _ => False) _) had620 (fun _ hb _ => hb.elim) (by have hle3 := setL_len ((l.take i).map (·.slot)); rw [← hset] at hle3; simp [lim] at *; omega) ?_
              intro v621 w622 hO623 hc624
              refine norm (rfl : _ = [_, _, _, _, _, _, _, _, _, _, _, _, _, _, _, _, _, _, _, _, _, _, _, _, _, _, _, _, _, _, _, _, _, _, _, _, _, _, _, _, _, _, _, _, _, _, _, _, _, _, _, _, _, _, _, _, _, _, _, _, _, _, _]) ?_
              have hs625 := hc624.size
              replace hb10 := hb10.chg hc624 (by omega)
              replace hr542 := hr542.chg hc624 (by omega)
              replace hO := hO.chg hc624 (by omega)
              replace hd533 := hd533.chg hc624 (by omega)
              replace hB610 := hB610.chg hc624 (by omega)
              refine s_nil rfl ?_
              refine x_h hr542 ?_
              refine h_one 11 (by kernel_rfl) rfl (rfl : _ = [true, true, true, true, true, true, true, true, true, true, true, true, true, true, true, false, false]) ?_
              refine s_appendX kInt (z := (.int .i64 0)) (bytes := 8) (ys := [ex.slot]) (ok2 := fun _ => False) Try.underlying23 (by kernel_rfl) rfl (by decide) (by decide) (by decide) rfl hO623 rfl (flat_one rfl) (had_bx hB610) (fun _ hb _ => hb.elim) (by have hle3 := setL_len ((l.take i).map (·.slot)); rw [← hset] at hle3; simp [lim] at *; omega) ?_
              intro v626 w627 hO628 hc629
              refine norm (rfl : _ = [_, _, _, _, _, _, _, _, _, _, _, _, _, _, _, _, _, _, _, _, _, _, _, _, _, _, _, _, _, _, _, _, _, _, _, _, _, _, _, _, _, _, _, _, _, _, _, _, _, _, _, _, _, _, _, _, _, _, _, _, _, _, _]) ?_
              have hs630 := hc629.size
              replace hb10 := hb10.chg hc629 (by omega)
              replace hr542 := hr542.chg hc629 (by omega)
              replace hO := hO.chg hc629 (by omega)
              replace hd533 := hd533.chg hc629 (by omega)
              refine s_nil rfl ?_
              refine x_h hr542 ?_
              refine h_one 15 (by kernel_rfl) rfl (rfl : _ = [true, true, true, true, true, true, true, true, true, true, true, true, true, true, true, true, false]) ?_
              obtain ⟨ad631, c632, ds633, hv634, hF635, had636⟩ := ((hS563.keep (Kept.all hr542))).flat
              refine s_appendX kInt (z := (.int .i64 0)) (bytes := 8) (ys := (out0.drop k)) (ok2 := fun _ => False) Try.underlying23 (by kernel_rfl) rfl (by decide) (by decide) (by decide) rfl hO628 hv634 (hF635.any kInt_plain (fun _ => False) _) had636 (fun _ hb _ => hb.elim) (by have hle3 := setL_len ((l.take i).map (·.slot)); rw [← hset] at hle3; simp [lim] at *; omega) ?_
              intro v637 w638 hO639 hc640
              refine norm (rfl : _ = [_, _, _, _, _, _, _, _, _, _, _, _, _, _, _, _, _, _, _, _, _, _, _, _, _, _, _, _, _, _, _, _, _, _, _, _, _, _, _, _, _, _, _, _, _, _, _, _, _, _, _, _, _, _, _, _, _, _, _, _, _, _, _]) ?_
              have hs641 := hc640.size
              replace hb10 := hb10.chg hc640 (by omega)
              replace hr542 := hr542.chg hc640 (by omega)
              replace hO := hO.chg hc640 (by omega)
              replace hd533 := hd533.chg hc640 (by omega)
              refine s_nil rfl ?_
              refine x_h hr542 ?_
              refine h_take 16 rfl (by kernel_rfl) (rfl : _ = [true, true, true, true, true, true, true, true, true, true, true, true, true, true, true, true, true]) ?_
              refine h_val (v := v637) rfl (fun w' hC => r_assign rfl) (rfl : _ = [_, _, _, _, _, _, _, _, _, _, _, _, _, _, _, _, _, _, _, _, _, _, _, _, _, _, _, _, _, _, _, _, _, _, _, _, _, _, _, _, _, _, _, _, _, _, _, _, _, _, _, _, _, _, _, _, _, _, _, _, _, _, _]) ?_
              refine h_nil (by kernel_rfl) rfl ?_
              replace hS549 := hS549.keep (Kept.all hr542)
              replace hS563 := hS563.keep (Kept.all hr542)
              replace hd561 := hd561.keep (Kept.all hr542)
              refine x_block ?_
              refine x_seq ?_
              refine c_region ?_
              refine s_val (v := (.int .i64 (i : Int))) rfl (r_move rfl) (rfl : _ = [_, _, _, _, _, _, _, _, _, _, _, _, _, _, _, _, _, _, _, _, _, _, _, _, _, _, _, _, _, _, _, _, _, _, _, _, _, _, _, _, _, _, _, _, _, _, _, _, _, _, _, _, _, _, _, _, _, _, _, _, _, _, _]) ?_
              refine s_val (v := (.int .i64 ((i : Int) + 1))) rfl (r_add (c := (i : Int) + 1) rfl rfl (i64_in (by omega) (by omega))) (rfl : _ = [_, _, _, _, _, _, _, _, _, _, _, _, _, _, _, _, _, _, _, _, _, _, _, _, _, _, _, _, _, _, _, _, _, _, _, _, _, _, _, _, _, _, _, _, _, _, _, _, _, _, _, _, _, _, _, _, _, _, _, _, _, _, _]) ?_
              refine s_val (v := (.int .i64 ((i : Int) + 1))) rfl (r_assign rfl) (rfl : _ = [_, _, _, _, _, _, _, _, _, _, _, _, _, _, _, _, _, _, _, _, _, _, _, _, _, _, _, _, _, _, _, _, _, _, _, _, _, _, _, _, _, _, _, _, _, _, _, _, _, _, _, _, _, _, _, _, _, _, _, _, _, _, _]) ?_
              refine s_nil rfl ?_
              refine x_then ?_
              have hle2 := setL_len ((l.take i).map (·.slot))
              rw [← hset] at hle2
              simp only [List.length_map, List.length_take] at hle2
              have hzz : lessN ex.slot (out0.drop k) = 0 := by first | exact lessN_end (by omega) | exact lessN_stop he518 (by assumption)
              have hlk2 : lessN ex.slot out0 = k := by omega
              have hnew : setL ((l.take (i + 1)).map (·.slot)) = ((([] ++ (out0.take k)) ++ [ex.slot]) ++ (out0.drop k)) := by
                rw [setL_snoc hex, ← hset, insL, hlk2]
                rw [if_neg (fun hh => by first | (rw [List.getElem?_eq_none (by omega)] at hh; cases hh) | (rw [he518] at hh; injection hh with hh; exact absurd hh (by assumption)))]
                simp
              refine ⟨_, _, ?_, rfl, (i + 1), ((([] ++ (out0.take k)) ++ [ex.slot]) ++ (out0.drop k)), v637, a565, w638.heap.size, (fun n_ => ([jk9 0, .int .i64 (k : Int), .int .i64 (i : Int), v, .int .i64 (l.length : Int), .bool true, .int .i64 (i : Int), .int .i64 ((i : Int) + 1), .int .i64 (k : Int), out, .int .i64 (out0.length : Int), .bool false, .bool false, undef, undef, undef, undef, undef, undef, undef, undef, undef, undef, .bool false, jk9 17, jk9 18, .int .i64 (k : Int), out, .int .i64 (out0.length : Int), .bool false, .bool false, out, .int .i64 (k : Int), .pointer (some ⟨a515, o516, none⟩), .int .i64 e514, v, .int .i64 (i : Int), .pointer (some ⟨a524, o525, none⟩), .pointer (some ⟨a524, o525 + 0, none⟩), .int .i64 ex.slot, .bool true, .bool true, .slice (some ⟨a565, 0, none⟩) 0 0, out, .int .i64 (k : Int), v548, v621, v, .int .i64 (i : Int), .pointer (some ⟨a552, o553, none⟩), .pointer (some ⟨a552, o553 + 0, none⟩), .int .i64 ex.slot, .slice (some ⟨a607, 0, none⟩) 1 1, v626, out, .int .i64 (k : Int), v562, v637] : List Value).getD n_ undef), rfl, rfl, (by omega), hnew.symm, (by omega), hb10, hO639⟩
              omega
          · skip
            refine s_buildSlice (cs := [.int .i64 ex.slot]) (e := 3) 23 1 _ rfl rfl (by kernel_rfl) ?_
            intro a642 w643 he644 hB645 hc646 hz647
            refine norm (rfl : _ = [_, _, _, _, _, _, _, _, _, _, _, _, _, _, _, _, _, _, _, _, _, _, _, _, _, _, _, _, _, _, _, _, _, _, _, _, _, _, _, _, _, _, _, _, _, _, _, _, _, _, _, _, _, _, _, _, _, _, _, _, _, _, _]) ?_
            have hs648 := hc646.size
            replace hb10 := hb10.chg hc646 (by omega)
            replace hr542 := hr542.chg hc646 (by omega)
            replace hO := hO.chg hc646 (by omega)
            replace hd533 := hd533.chg hc646 (by omega)
            refine s_nil rfl ?_
            refine x_h hr542 ?_
            refine h_one 0 (by kernel_rfl) rfl (rfl : _ = [true, true, true, true, false, true, true, true, true, true, true, false, true, true, true, false, false]) ?_
            refine s_buildSlice (cs := []) (e := 3) 23 0 _ rfl rfl (by kernel_rfl) ?_
            intro a649 w650 he651 hB652 hc653 hz654
            refine norm (rfl : _ = [_, _, _, _, _, _, _, _, _, _, _, _, _, _, _, _, _, _, _, _, _, _, _, _, _, _, _, _, _, _, _, _, _, _, _, _, _, _, _, _, _, _, _, _, _, _, _, _, _, _, _, _, _, _, _, _, _, _, _, _, _, _, _]) ?_
            have hs655 := hc653.size
            replace hb10 := hb10.chg hc653 (by omega)
            replace hr542 := hr542.chg hc653 (by omega)
            replace hO := hO.chg hc653 (by omega)
            replace hd533 := hd533.chg hc653 (by omega)
            replace hB645 := hB645.chg hc653 (by omega)
            refine s_nil rfl ?_
            refine x_h hr542 ?_
            refine h_one 4 (by kernel_rfl) rfl (rfl : _ = [true, true, true, true, true, true, true, true, true, true, true, false, true, true, true, false, false]) ?_
            have hO656 : OwnX kInt 3 0 a649 (a649 + 1) w650 (.slice (some ⟨a649, 0, none⟩) 0 0) [] := OwnX.of_bx (ok := (fun _ => False)) hB652 .nil rfl (by simp [lim]) (by omega) (Nat.le_refl _) (by omega) (by omega) (fun _ hb _ => hb.elim)
            obtain ⟨ad657, c658, ds659, hv660, hF661, had662⟩ := ((hS549.keep (Kept.all hr542))).flat
            refine s_appendX kInt (z := (.int .i64 0)) (bytes := 8) (ys := (out0.take k)) (ok2 := fun _ => False) Try.underlying23 (by kernel_rfl) rfl (by decide) (by decide) (by decide) rfl hO656 hv660 (hF661.any kInt_plain (fun _ => False) _) had662 (fun _ hb _ => hb.elim) (by have hle3 := setL_len ((l.take i).map (·.slot)); rw [← hset] at hle3; simp [lim] at *; omega) ?_
            intro v663 w664 hO665 hc666
            refine norm (rfl : _ = [_, _, _, _, _, _, _, _, _, _, _, _, _, _, _, _, _, _, _, _, _, _, _, _, _, _, _, _, _, _, _, _, _, _, _, _, _, _, _, _, _, _, _, _, _, _, _, _, _, _, _, _, _, _, _, _, _, _, _, _, _, _, _]) ?_
            have hs667 := hc666.size
            replace hb10 := hb10.chg hc666 (by omega)
            replace hr542 := hr542.chg hc666 (by omega)
            replace hO := hO.chg hc666 (by omega)
            replace hd533 := hd533.chg hc666 (by omega)
            replace hB645 := hB645.chg hc666 (by omega)
            refine s_nil rfl ?_
            refine x_h hr542 ?_
            refine h_one 11 (by kernel_rfl) rfl (rfl : _ = [true, true, true, true, true, true, true, true, true, true, true, true, true, true, true, false, false]) ?_
            refine s_appendX kInt (z := (.int .i64 0)) (bytes := 8) (ys := [ex.slot]) (ok2 := fun _ => False) Try.underlying23 (by kernel_rfl) rfl (by decide) (by decide) (by decide) rfl hO665 rfl (flat_one rfl) (had_bx hB645) (fun _ hb _ => hb.elim) (by have hle3 := setL_len ((l.take i).map (·.slot)); rw [← hset] at hle3; simp [lim] at *; omega) ?_
            intro v668 w669 hO670 hc671
            refine norm (rfl : _ = [_, _, _, _, _, _, _, _, _, _, _, _, _, _, _, _, _, _, _, _, _, _, _, _, _, _, _, _, _, _, _, _, _, _, _, _, _, _, _, _, _, _, _, _, _, _, _, _, _, _, _, _, _, _, _, _, _, _, _, _, _, _, _]) ?_
            have hs672 := hc671.size
            replace hb10 := hb10.chg hc671 (by omega)
            replace hr542 := hr542.chg hc671 (by omega)
            replace hO := hO.chg hc671 (by omega)
            replace hd533 := hd533.chg hc671 (by omega)
            refine s_nil rfl ?_
            refine x_h hr542 ?_
            refine h_one 15 (by kernel_rfl) rfl (rfl : _ = [true, true, true, true, true, true, true, true, true, true, true, true, true, true, true, true, false]) ?_
            obtain ⟨ad673, c674, ds675, hv676, hF677, had678⟩ := ((hS563.keep (Kept.all hr542))).flat
            refine s_appendX kInt (z := (.int .i64 0)) (bytes := 8) (ys := (out0.drop k)) (ok2 := fun _ => False) Try.underlying23 (by kernel_rfl) rfl (by decide) (by decide) (by decide) rfl hO670 hv676 (hF677.any kInt_plain (fun _ => False) _) had678 (fun _ hb _ => hb.elim) (by have hle3 := setL_len ((l.take i).map (·.slot)); rw [← hset] at hle3; simp [lim] at *; omega) ?_
            intro v679 w680 hO681 hc682
            refine norm (rfl : _ = [_, _, _, _, _, _, _, _, _, _, _, _, _, _, _, _, _, _, _, _, _, _, _, _, _, _, _, _, _, _, _, _, _, _, _, _, _, _, _, _, _, _, _, _, _, _, _, _, _, _, _, _, _, _, _, _, _, _, _, _, _, _, _]) ?_
            have hs683 := hc682.size
            replace hb10 := hb10.chg hc682 (by omega)
            replace hr542 := hr542.chg hc682 (by omega)
            replace hO := hO.chg hc682 (by omega)
            replace hd533 := hd533.chg hc682 (by omega)
            refine s_nil rfl ?_
            refine x_h hr542 ?_
            refine h_take 16 rfl (by kernel_rfl) (rfl : _ = [true, true, true, true, true, true, true, true, true, true, true, true, true, true, true, true, true]) ?_
            refine h_val (v := v679) rfl (fun w' hC => r_assign rfl) (rfl : _ = [_, _, _, _, _, _, _, _, _, _, _, _, _, _, _, _, _, _, _, _, _, _, _, _, _, _, _, _, _, _, _, _, _, _, _, _, _, _, _, _, _, _, _, _, _, _, _, _, _, _, _, _, _, _, _, _, _, _, _, _, _, _, _]) ?_
            refine h_nil (by kernel_rfl) rfl ?_
            replace hS549 := hS549.keep (Kept.all hr542)
            replace hS563 := hS563.keep (Kept.all hr542)
            replace hd561 := hd561.keep (Kept.all hr542)
            refine x_block ?_
            refine x_seq ?_
            refine c_region ?_
            refine s_val (v := (.int .i64 (i : Int))) rfl (r_move rfl) (rfl : _ = [_, _, _, _, _, _, _, _, _, _, _, _, _, _, _, _, _, _, _, _, _, _, _, _, _, _, _, _, _, _, _, _, _, _, _, _, _, _, _, _, _, _, _, _, _, _, _, _, _, _, _, _, _, _, _, _, _, _, _, _, _, _, _]) ?_
            refine s_val (v := (.int .i64 ((i : Int) + 1))) rfl (r_add (c := (i : Int) + 1) rfl rfl (i64_in (by omega) (by omega))) (rfl : _ = [_, _, _, _, _, _, _, _, _, _, _, _, _, _, _, _, _, _, _, _, _, _, _, _, _, _, _, _, _, _, _, _, _, _, _, _, _, _, _, _, _, _, _, _, _, _, _, _, _, _, _, _, _, _, _, _, _, _, _, _, _, _, _]) ?_
            refine s_val (v := (.int .i64 ((i : Int) + 1))) rfl (r_assign rfl) (rfl : _ = [_, _, _, _, _, _, _, _, _, _, _, _, _, _, _, _, _, _, _, _, _, _, _, _, _, _, _, _, _, _, _, _, _, _, _, _, _, _, _, _, _, _, _, _, _, _, _, _, _, _, _, _, _, _, _, _, _, _, _, _, _, _, _]) ?_
            refine s_nil rfl ?_
            refine x_then ?_
            have hle2 := setL_len ((l.take i).map (·.slot))
            rw [← hset] at hle2
            simp only [List.length_map, List.length_take] at hle2
            have hzz : lessN ex.slot (out0.drop k) = 0 := by first | exact lessN_end (by omega) | exact lessN_stop he518 (by assumption)
            have hlk2 : lessN ex.slot out0 = k := by omega
            have hnew : setL ((l.take (i + 1)).map (·.slot)) = ((([] ++ (out0.take k)) ++ [ex.slot]) ++ (out0.drop k)) := by
              rw [setL_snoc hex, ← hset, insL, hlk2]
              rw [if_neg (fun hh => by first | (rw [List.getElem?_eq_none (by omega)] at hh; cases hh) | (rw [he518] at hh; injection hh with hh; exact absurd hh (by assumption)))]
              simp
            refine ⟨_, _, ?_, rfl, (i + 1), ((([] ++ (out0.take k)) ++ [ex.slot]) ++ (out0.drop k)), v679, a649, w680.heap.size, (fun n_ => ([jk9 0, .int .i64 (k : Int), .int .i64 (i : Int), v, .int .i64 (l.length : Int), .bool true, .int .i64 (i : Int), .int .i64 ((i : Int) + 1), .int .i64 (k : Int), out, .int .i64 (out0.length : Int), .bool false, .bool false, undef, undef, undef, undef, undef, undef, undef, undef, undef, undef, .bool false, jk9 17, jk9 18, .int .i64 (k : Int), out, .int .i64 (out0.length : Int), .bool false, .bool false, out, .int .i64 (k : Int), .pointer (some ⟨a515, o516, none⟩), .int .i64 e514, v, .int .i64 (i : Int), .pointer (some ⟨a524, o525, none⟩), .pointer (some ⟨a524, o525 + 0, none⟩), .int .i64 ex.slot, .bool true, .bool true, .slice (some ⟨a649, 0, none⟩) 0 0, out, .int .i64 (k : Int), v548, v663, v, .int .i64 (i : Int), .pointer (some ⟨a552, o553, none⟩), .pointer (some ⟨a552, o553 + 0, none⟩), .int .i64 ex.slot, .slice (some ⟨a642, 0, none⟩) 1 1, v668, out, .int .i64 (k : Int), v562, v679] : List Value).getD n_ undef), rfl, rfl, (by omega), hnew.symm, (by omega), hb10, hO681⟩
            omega
        | false =>
          replace hb534 := bf hb534
          refine c_cond rfl (fun hh => by cases hh) (fun _ => ?_)
          refine c_skip ?_
          refine x_block ?_
          refine x_seq ?_
          refine c_region ?_
          refine s_val (v := (.int .i64 (i : Int))) rfl (r_move rfl) (rfl : _ = [_, _, _, _, _, _, _, _, _, _, _, _, _, _, _, _, _, _, _, _, _, _, _, _, _, _, _, _, _, _, _, _, _, _, _, _, _, _, _, _, _, _, _, _, _, _, _, _, _, _, _, _, _, _, _, _, _, _, _, _, _, _, _]) ?_
          refine s_val (v := (.int .i64 ((i : Int) + 1))) rfl (r_add (c := (i : Int) + 1) rfl rfl (i64_in (by omega) (by omega))) (rfl : _ = [_, _, _, _, _, _, _, _, _, _, _, _, _, _, _, _, _, _, _, _, _, _, _, _, _, _, _, _, _, _, _, _, _, _, _, _, _, _, _, _, _, _, _, _, _, _, _, _, _, _, _, _, _, _, _, _, _, _, _, _, _, _, _]) ?_
          refine s_val (v := (.int .i64 ((i : Int) + 1))) rfl (r_assign rfl) (rfl : _ = [_, _, _, _, _, _, _, _, _, _, _, _, _, _, _, _, _, _, _, _, _, _, _, _, _, _, _, _, _, _, _, _, _, _, _, _, _, _, _, _, _, _, _, _, _, _, _, _, _, _, _, _, _, _, _, _, _, _, _, _, _, _, _]) ?_
          refine s_nil rfl ?_
          refine x_then ?_
          have hle2 := setL_len ((l.take i).map (·.slot))
          rw [← hset] at hle2
          simp only [List.length_map, List.length_take] at hle2
          have hzz : lessN ex.slot (out0.drop k) = 0 := by first | exact lessN_end (by omega) | exact lessN_stop he518 (by assumption)
          have hlk2 : lessN ex.slot out0 = k := by omega
          have hnew : setL ((l.take (i + 1)).map (·.slot)) = out0 := by
            rw [setL_snoc hex, ← hset, insL, hlk2, if_pos]
            rw [he518]; congr 1; by_cases hh : e514 = ex.slot; exact hh; first | exact absurd hh (by assumption) | exact absurd (fun h => hh h) (by assumption)
          refine ⟨_, _, ?_, rfl, (i + 1), out0, out, nn, hh, (fun n_ => ([jk9 0, .int .i64 (k : Int), .int .i64 (i : Int), v, .int .i64 (l.length : Int), .bool true, .int .i64 (i : Int), .int .i64 ((i : Int) + 1), .int .i64 (k : Int), out, .int .i64 (out0.length : Int), .bool false, .bool false, undef, undef, undef, undef, undef, undef, undef, undef, undef, undef, .bool false, jk9 17, jk9 18, .int .i64 (k : Int), out, .int .i64 (out0.length : Int), .bool false, .bool false, out, .int .i64 (k : Int), .pointer (some ⟨a515, o516, none⟩), .int .i64 e514, v, .int .i64 (i : Int), .pointer (some ⟨a524, o525, none⟩), .pointer (some ⟨a524, o525 + 0, none⟩), .int .i64 ex.slot, .bool false, .bool false, jk2 42, jk2 43, jk2 44, jk2 45, jk2 46, jk2 47, jk2 48, jk2 49, jk2 50, jk2 51, jk2 52, jk2 53, jk2 54, jk2 55, jk2 56, jk2 57] : List Value).getD n_ undef), rfl, rfl, (by omega), hnew.symm, hnn, hb10, hO⟩
          omega
  | false =>
    replace hb7 := bf hb7
    refine c_cond rfl (fun hh => by cases hh) (fun _ => ?_)
    refine c_exit ?_
    refine x_then_exit ?_
    refine x_then_exit ?_
    refine x_block_same ?_
    refine x_seq ?_
    refine c_seq ?_
    refine c_region ?_
    refine s_val (v := out) rfl (r_move rfl) (rfl : _ = [_, _, _, _, _, _, _, _, _, _, _, _, _, _, _, _, _, _, _, _, _, _, _, _, _, _, _, _, _, _, _, _, _, _, _, _, _, _, _, _, _, _, _, _, _, _, _, _, _, _, _, _, _, _, _, _, _, _, _, _, _, _, _]) ?_
    refine s_val (v := out) rfl (r_assign rfl) (rfl : _ = [_, _, _, _, _, _, _, _, _, _, _, _, _, _, _, _, _, _, _, _, _, _, _, _, _, _, _, _, _, _, _, _, _, _, _, _, _, _, _, _, _, _, _, _, _, _, _, _, _, _, _, _, _, _, _, _, _, _, _, _, _, _, _]) ?_
    refine s_nil rfl ?_
    refine x_seq ?_
    refine c_ret ?_
    refine post_ret rfl rfl ?_
    have hi2 : i = l.length := by omega
    subst hi2
    rw [List.take_length] at hset
    subst hset
    exact ⟨hO.sl.rg (by decide) (fun b _ hh => by omega), hb3⟩

end Go.Proofs.Ytailhdcackkegaa.Wd

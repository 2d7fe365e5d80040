/- ballot: Pick, Slots, and the document's. -/
import Derived.Test.YtailhdcackkegaaS1
import Derived.Test.YtailhdcackkegaaSo
import Derived.Test.YtailhdcackkegaaC1
import Derived.Test.YtailhdcackkegaaProg
import Derived.Test.YtailhdcackkegaaShelf
namespace Go.Proofs.Ytailhdcackkegaa.Wd
open Go.RowKit
set_option linter.unusedVariables false
set_option linter.unusedSimpArgs false

def pickStep (slot : Int) (s : Vot × Bool) (v : Vot) : Vot × Bool := if v.slot = slot ∧ (s.2 = false ∨ 0 < cmpBal v.bal s.1.bal) then (v, true) else s
def vot0 : Vot := ⟨0, ⟨0, 0⟩, ⟨true, ⟨⟨#[]⟩, ⟨#[]⟩, 0, []⟩⟩⟩
def pickL (slot : Int) (l : List Vot) : Vot × Bool := l.foldl (pickStep slot) (vot0, false)
theorem pickL_snoc (slot : Int) {l : List Vot} {i : Nat} {e : Vot} (h : l[i]? = some e) : pickL slot (l.take (i + 1)) = pickStep slot (pickL slot (l.take i)) e := by
  rw [take_snoc h, pickL, List.foldl_append]; rfl
theorem pick_yes {slot : Int} {b v : Vot} {f : Bool} (h1 : v.slot = slot) (h2 : f = false ∨ 0 < cmpBal v.bal b.bal) : pickStep slot (b, f) v = (v, true) := if_pos ⟨h1, h2⟩
theorem pick_no {slot : Int} {b v : Vot} {f : Bool} (h : v.slot ≠ slot ∨ f = true ∧ ¬ 0 < cmpBal v.bal b.bal) : pickStep slot (b, f) v = (b, f) := if_neg (fun ⟨h1, h2⟩ => by rcases h with h | ⟨h, h'⟩; exact h h1; rcases h2 with h2 | h2; simp at h2; rw [h2] at h; cases h; exact h' h2)
theorem lessN_step {x e : Int} {l : List Int} {k : Nat} (h : l[k]? = some e) (hl : e < x) : lessN x (l.drop k) = lessN x (l.drop (k + 1)) + 1 := by
  rw [drop_cons h, lessN, if_pos hl]
theorem lessN_stop {x e : Int} {l : List Int} {k : Nat} (h : l[k]? = some e) (hl : ¬ e < x) : lessN x (l.drop k) = 0 := by
  rw [drop_cons h, lessN, if_neg hl]
theorem lessN_end {x : Int} {l : List Int} {k : Nat} (h : l.length ≤ k) : lessN x (l.drop k) = 0 := by rw [List.drop_eq_nil_of_le h]; rfl
theorem setL_snoc {l : List Vot} {i : Nat} {e : Vot} (h : l[i]? = some e) : setL ((l.take (i + 1)).map (·.slot)) = insL e.slot (setL ((l.take i).map (·.slot))) := by
  rw [take_snoc h, List.map_append, setL, List.foldl_append]; rfl
theorem insL_len (x : Int) (l : List Int) : (insL x l).length ≤ l.length + 1 := by
  have := lessN_le x l
  unfold insL
  split
  · omega
  · simp; omega
theorem setL_len (xs : List Int) : (setL xs).length ≤ xs.length := by
  have key : ∀ (xs l : List Int), (xs.foldl (fun l x => insL x l) l).length ≤ l.length + xs.length := by
    intro xs
    induction xs with
    | nil => intro l; simp
    | cons x xs ih => intro l; have := ih (insL x l); have := insL_len x l; simp only [List.foldl_cons, List.length_cons]; omega
  simpa [setL] using key xs []

theorem pick_c {ok : Nat → Prop} {w : World} {v : Value} {l : List Vot} (hS : Sl kVot ok w v l) (slot : Int) {best : Vot} {found : Bool} (hbf : pickL slot l = (best, found)) :
    CallsV Try.prog 13 #[v, (.int .i64 slot)] w (fun r w' => (∃ d', r = .tuple #[.agg #[.bool best.ent.noop, .string best.ent.sl.token, .string best.ent.sl.cart, .int .i64 best.ent.sl.epoch, d'], .bool found] ∧ Sl kInt (Rg w.heap.size w.heap.size w'.heap.size) w' d' best.ent.sl.cut) ∧ Bel w w') := by
  have hb := Bel.refl w
  replace hS : Sl kVot (Rg w.heap.size 0 0) w v l := hS.weak (by decide) (fun b _ hl => .inl hl)
  have hSlim := lim_le hS.lim
  refine callsV_of Try.func13 (m := 45) Try.ntmps13 rfl rfl (l := [v, .int .i64 slot, undef, undef, undef, undef, undef, undef, undef, undef, undef, undef, undef, undef, undef, undef, undef, undef, undef, undef, undef, undef, undef, undef, undef, undef, undef, undef, undef, undef, undef, undef, undef, undef, undef, undef, undef, undef, undef, undef, undef, undef, undef, undef, undef, undef, undef]) rfl ?_
  refine c_seq ?_
  refine c_region ?_
  refine s_alloc (z := (.agg #[.bool false, .string ⟨#[]⟩, .string ⟨#[]⟩, .int .i64 0, .slice none 0 0])) 27 (by kernel_rfl) rfl ?_
  intro a1 w2 he3 hB4 hc5 hz6
  refine norm (rfl : _ = [_, _, _, _, _, _, _, _, _, _, _, _, _, _, _, _, _, _, _, _, _, _, _, _, _, _, _, _, _, _, _, _, _, _, _, _, _, _, _, _, _, _, _, _, _, _, _]) ?_
  have hs7 := hc5.size
  replace hb := hb.chg hc5 (by omega)
  refine s_val (v := (.bool false)) rfl (r_assign rfl) (rfl : _ = [_, _, _, _, _, _, _, _, _, _, _, _, _, _, _, _, _, _, _, _, _, _, _, _, _, _, _, _, _, _, _, _, _, _, _, _, _, _, _, _, _, _, _, _, _, _, _]) ?_
  refine s_nil rfl ?_
  refine x_seq ?_
  refine c_seq ?_
  refine c_region ?_
  refine s_val rfl (r_build (v := (.agg #[.bool true, .string ⟨#[]⟩, .string ⟨#[]⟩, .int .i64 0, .slice none 0 0])) rfl (by kernel_rfl)) (rfl : _ = [_, _, _, _, _, _, _, _, _, _, _, _, _, _, _, _, _, _, _, _, _, _, _, _, _, _, _, _, _, _, _, _, _, _, _, _, _, _, _, _, _, _, _, _, _, _, _]) ?_
  refine s_val rfl (r_build (v := (.agg #[.int .i64 0, .int .i64 0, .int .i64 0, .bool true, .string ⟨#[]⟩, .string ⟨#[]⟩, .int .i64 0, .slice none 0 0])) rfl (by kernel_rfl)) (rfl : _ = [_, _, _, _, _, _, _, _, _, _, _, _, _, _, _, _, _, _, _, _, _, _, _, _, _, _, _, _, _, _, _, _, _, _, _, _, _, _, _, _, _, _, _, _, _, _, _]) ?_
  refine s_alloc (z := (.agg #[.int .i64 0, .int .i64 0, .int .i64 0, .bool false, .string ⟨#[]⟩, .string ⟨#[]⟩, .int .i64 0, .slice none 0 0])) 75 (by kernel_rfl) rfl ?_
  intro a8 w9 he10 hB11 hc12 hz13
  refine norm (rfl : _ = [_, _, _, _, _, _, _, _, _, _, _, _, _, _, _, _, _, _, _, _, _, _, _, _, _, _, _, _, _, _, _, _, _, _, _, _, _, _, _, _, _, _, _, _, _, _, _]) ?_
  have hs14 := hc12.size
  replace hb := hb.chg hc12 (by omega)
  replace hB4 := hB4.chg hc12 (by omega)
  refine s_store (b := a8) (o := 0) (vs := [.int .i64 0, .int .i64 0, .int .i64 0, .bool true, .string ⟨#[]⟩, .string ⟨#[]⟩, .int .i64 0, .slice none 0 0]) (cs := [.int .i64 0, .int .i64 0, .int .i64 0, .bool false, .string ⟨#[]⟩, .string ⟨#[]⟩, .int .i64 0, .slice none 0 0]) (cs' := [.int .i64 0, .int .i64 0, .int .i64 0, .bool true, .string ⟨#[]⟩, .string ⟨#[]⟩, .int .i64 0, .slice none 0 0]) 75 _ _ rfl (v := (.agg #[.int .i64 0, .int .i64 0, .int .i64 0, .bool true, .string ⟨#[]⟩, .string ⟨#[]⟩, .int .i64 0, .slice none 0 0])) rfl rfl rfl hB11 (by kernel_rfl) ⟨rfl, rfl, rfl, rfl, rfl, rfl, rfl, rfl, trivial⟩ (by simp) rfl ?_
  intro w15 hB16 hc17 hz18
  have hs19 := hc17.size
  replace hb := hb.chg hc17 (by omega)
  replace hB4 := hB4.chg hc17 (by omega)
  refine s_nil rfl ?_
  refine x_seq ?_
  refine c_seq ?_
  refine c_region ?_
  refine s_val (v := (.bool false)) rfl (r_assign rfl) (rfl : _ = [_, _, _, _, _, _, _, _, _, _, _, _, _, _, _, _, _, _, _, _, _, _, _, _, _, _, _, _, _, _, _, _, _, _, _, _, _, _, _, _, _, _, _, _, _, _, _]) ?_
  refine s_nil rfl ?_
  refine x_seq ?_
  refine c_seq ?_
  refine c_seq ?_
  refine c_region ?_
  refine s_val (v := v) rfl (r_move rfl) (rfl : _ = [_, _, _, _, _, _, _, _, _, _, _, _, _, _, _, _, _, _, _, _, _, _, _, _, _, _, _, _, _, _, _, _, _, _, _, _, _, _, _, _, _, _, _, _, _, _, _]) ?_
  refine s_val (v := (.int .i64 (l.length : Int))) rfl ((hS.at_ hb).len Try.underlying22 rfl _) (rfl : _ = [_, _, _, _, _, _, _, _, _, _, _, _, _, _, _, _, _, _, _, _, _, _, _, _, _, _, _, _, _, _, _, _, _, _, _, _, _, _, _, _, _, _, _, _, _, _, _]) ?_
  refine s_val (v := (.int .i64 0)) rfl (r_move rfl) (rfl : _ = [_, _, _, _, _, _, _, _, _, _, _, _, _, _, _, _, _, _, _, _, _, _, _, _, _, _, _, _, _, _, _, _, _, _, _, _, _, _, _, _, _, _, _, _, _, _, _]) ?_
  refine s_nil rfl ?_
  refine x_seq ?_
  refine c_block ?_
  refine c_loop (fun kk_ fr_ wr20 => ∃ (i : Nat) (cb : Vot) (cf : Bool) (bd : Value) (jk21 : Nat → Value), kk_ = l.length - i ∧ fr_ = [jk21 0, .int .i64 slot, jk21 1, jk21 2, .pointer (some ⟨a1, 0, none⟩), .bool false, .pointer (some ⟨a8, 0, none⟩), .bool cf, jk21 3, jk21 4, jk21 5, jk21 6, v, .int .i64 (l.length : Int), .int .i64 (i : Int), jk21 7, jk21 8, jk21 9, jk21 10, jk21 11, jk21 12, jk21 13, jk21 14, jk21 15, jk21 16, jk21 17, jk21 18, jk21 19, jk21 20, jk21 21, jk21 22, jk21 23, jk21 24, jk21 25, jk21 26, jk21 27, undef, undef, undef, undef, undef, undef, undef, undef, undef, undef, undef] ∧ (i ≤ l.length) ∧ (pickL slot (l.take i) = (cb, cf)) ∧ Bel w wr20 ∧ Bx wr20 a8 [.int .i64 cb.slot, .int .i64 cb.bal.r, .int .i64 cb.bal.n, .bool cb.ent.noop, .string cb.ent.sl.token, .string cb.ent.sl.cart, .int .i64 cb.ent.sl.epoch, bd] 75 ∧ Sl kInt (Rg w.heap.size 0 0) wr20 bd cb.ent.sl.cut ∧ Bx wr20 a1 [.bool false, .string ⟨#[]⟩, .string ⟨#[]⟩, .int .i64 0, .slice none 0 0] 27) _ ⟨0, vot0, false, (.slice none 0 0), (fun n_ => ([v, undef, undef, undef, undef, .agg #[.bool true, .string ⟨#[]⟩, .string ⟨#[]⟩, .int .i64 0, .slice none 0 0], .agg #[.int .i64 0, .int .i64 0, .int .i64 0, .bool true, .string ⟨#[]⟩, .string ⟨#[]⟩, .int .i64 0, .slice none 0 0], undef, undef, undef, undef, undef, undef, undef, undef, undef, undef, undef, undef, undef, undef, undef, undef, undef, undef, undef, undef, undef] : List Value).getD n_ undef), rfl, rfl, (Nat.zero_le _), rfl, hb, hB16, (Sl.nil _ _ _), hB4⟩ ?_
  rintro _ _ wr20 ⟨i, cb, cf, bd, jk21, rfl, rfl, hi, hp, hb22, hB16, hbd, hB4⟩
  have hs23 := hb22.size
  have hl24 := hB16.lt
  have hl25 := lim_le hbd.lim
  have hl26 := hB4.lt
  refine c_seq ?_
  refine c_region ?_
  refine s_bool (p := ((i : Int) < (l.length : Int) : Prop)) rfl (r_lss rfl rfl) decide_eq_true_iff ?_
  intro b27 hb27
  refine norm (rfl : _ = [_, _, _, _, _, _, _, _, _, _, _, _, _, _, _, _, _, _, _, _, _, _, _, _, _, _, _, _, _, _, _, _, _, _, _, _, _, _, _, _, _, _, _, _, _, _, _]) ?_
  refine s_nil rfl ?_
  refine x_seq ?_
  refine c_seq ?_
  cases b27 with
  | true =>
    replace hb27 := bt hb27
    refine c_cond rfl (fun _ => ?_) (fun hh => by cases hh)
    refine c_skip ?_
    refine x_seq ?_
    refine c_seq ?_
    refine c_block ?_
    refine c_seq ?_
    refine c_region ?_
    obtain ⟨e28, a29, o30, c31, he32, hc33, hr34, hk35, hi36⟩ := (hS.at_ hb22).idx (j := (i : Int)) (by omega) (by omega)
    rw [Int.toNat_natCast] at he32
    obtain ⟨d37, rfl, hd38⟩ := kVot_cells.1 hc33
    refine s_val rfl (hi36 _ _ _ _ _ _ _ (by kernel_rfl) rfl rfl) (rfl : _ = [_, _, _, _, _, _, _, _, _, _, _, _, _, _, _, _, _, _, _, _, _, _, _, _, _, _, _, _, _, _, _, _, _, _, _, _, _, _, _, _, _, _, _, _, _, _, _]) ?_
    refine s_val (v := (.agg #[.int .i64 e28.slot, .int .i64 e28.bal.r, .int .i64 e28.bal.n, .bool e28.ent.noop, .string e28.ent.sl.token, .string e28.ent.sl.cart, .int .i64 e28.ent.sl.epoch, d37])) rfl (r_load rfl (Ld.row Try.underlying75 rfl (by kernel_rfl) hr34)) (rfl : _ = [_, _, _, _, _, _, _, _, _, _, _, _, _, _, _, _, _, _, _, _, _, _, _, _, _, _, _, _, _, _, _, _, _, _, _, _, _, _, _, _, _, _, _, _, _, _, _]) ?_
    refine s_alloc (z := (.agg #[.int .i64 0, .int .i64 0, .int .i64 0, .bool false, .string ⟨#[]⟩, .string ⟨#[]⟩, .int .i64 0, .slice none 0 0])) 75 (by kernel_rfl) rfl ?_
    intro a39 w40 he41 hB42 hc43 hz44
    refine norm (rfl : _ = [_, _, _, _, _, _, _, _, _, _, _, _, _, _, _, _, _, _, _, _, _, _, _, _, _, _, _, _, _, _, _, _, _, _, _, _, _, _, _, _, _, _, _, _, _, _, _]) ?_
    have hs45 := hc43.size
    replace hb22 := hb22.chg hc43 (by omega)
    replace hB16 := hB16.chg hc43 (by omega)
    replace hbd := hbd.chg hc43 (by omega)
    replace hB4 := hB4.chg hc43 (by omega)
    replace hd38 := hd38.chg hc43 (by omega)
    refine s_store (b := a39) (o := 0) (vs := [.int .i64 e28.slot, .int .i64 e28.bal.r, .int .i64 e28.bal.n, .bool e28.ent.noop, .string e28.ent.sl.token, .string e28.ent.sl.cart, .int .i64 e28.ent.sl.epoch, d37]) (cs := [.int .i64 0, .int .i64 0, .int .i64 0, .bool false, .string ⟨#[]⟩, .string ⟨#[]⟩, .int .i64 0, .slice none 0 0]) (cs' := [.int .i64 e28.slot, .int .i64 e28.bal.r, .int .i64 e28.bal.n, .bool e28.ent.noop, .string e28.ent.sl.token, .string e28.ent.sl.cart, .int .i64 e28.ent.sl.epoch, d37]) 75 _ _ rfl (v := (.agg #[.int .i64 e28.slot, .int .i64 e28.bal.r, .int .i64 e28.bal.n, .bool e28.ent.noop, .string e28.ent.sl.token, .string e28.ent.sl.cart, .int .i64 e28.ent.sl.epoch, d37])) rfl rfl rfl hB42 (by kernel_rfl) ⟨rfl, rfl, rfl, rfl, rfl, rfl, rfl, hd38.one, trivial⟩ (by simp) rfl ?_
    intro w46 hB47 hc48 hz49
    have hs50 := hc48.size
    replace hb22 := hb22.chg hc48 (by omega)
    replace hB16 := hB16.chg hc48 (by omega)
    replace hbd := hbd.chg hc48 (by omega)
    replace hB4 := hB4.chg hc48 (by omega)
    replace hd38 := hd38.chg hc48 (by omega)
    refine s_nil rfl ?_
    refine x_seq ?_
    refine c_seq ?_
    refine c_region ?_
    refine s_val (v := (.pointer (some ⟨a39, 0, none⟩))) rfl (r_field (k := 0) (o := 0) (by kernel_rfl) rfl) (rfl : _ = [_, _, _, _, _, _, _, _, _, _, _, _, _, _, _, _, _, _, _, _, _, _, _, _, _, _, _, _, _, _, _, _, _, _, _, _, _, _, _, _, _, _, _, _, _, _, _]) ?_
    refine s_val (v := (.int .i64 e28.slot)) rfl (r_load rfl (Ld.one Try.underlying3 rfl (hB47.cell (i := 0) rfl))) (rfl : _ = [_, _, _, _, _, _, _, _, _, _, _, _, _, _, _, _, _, _, _, _, _, _, _, _, _, _, _, _, _, _, _, _, _, _, _, _, _, _, _, _, _, _, _, _, _, _, _]) ?_
    refine s_val (v := (.int .i64 slot)) rfl (r_move rfl) (rfl : _ = [_, _, _, _, _, _, _, _, _, _, _, _, _, _, _, _, _, _, _, _, _, _, _, _, _, _, _, _, _, _, _, _, _, _, _, _, _, _, _, _, _, _, _, _, _, _, _]) ?_
    refine s_bool (p := (e28.slot = slot : Prop)) rfl (r_eqi rfl rfl) eqi_iff ?_
    intro b51 hb51
    refine norm (rfl : _ = [_, _, _, _, _, _, _, _, _, _, _, _, _, _, _, _, _, _, _, _, _, _, _, _, _, _, _, _, _, _, _, _, _, _, _, _, _, _, _, _, _, _, _, _, _, _, _]) ?_
    refine s_val (v := (.bool b51)) rfl (r_move rfl) (rfl : _ = [_, _, _, _, _, _, _, _, _, _, _, _, _, _, _, _, _, _, _, _, _, _, _, _, _, _, _, _, _, _, _, _, _, _, _, _, _, _, _, _, _, _, _, _, _, _, _]) ?_
    cases b51 with
    | true =>
      replace hb51 := bt hb51
      refine s_val (v := (.bool cf)) (wan_t (dj := 22) rfl rfl) (r_move rfl) (rfl : _ = [_, _, _, _, _, _, _, _, _, _, _, _, _, _, _, _, _, _, _, _, _, _, _, _, _, _, _, _, _, _, _, _, _, _, _, _, _, _, _, _, _, _, _, _, _, _, _]) ?_
      refine s_val (wan_t (dj := 22) rfl rfl) (r_not rfl rfl) (rfl : _ = [_, _, _, _, _, _, _, _, _, _, _, _, _, _, _, _, _, _, _, _, _, _, _, _, _, _, _, _, _, _, _, _, _, _, _, _, _, _, _, _, _, _, _, _, _, _, _]) ?_
      refine s_val (v := (.bool (!cf))) (wan_t (dj := 22) rfl rfl) (r_move rfl) (rfl : _ = [_, _, _, _, _, _, _, _, _, _, _, _, _, _, _, _, _, _, _, _, _, _, _, _, _, _, _, _, _, _, _, _, _, _, _, _, _, _, _, _, _, _, _, _, _, _, _]) ?_
      cases cf with
      | true =>
        refine s_val (v := (.pointer (some ⟨a39, 1, none⟩))) (wan_t (dj := 25) rfl rfl) (r_field (k := 1) (o := 0) (by kernel_rfl) rfl) (rfl : _ = [_, _, _, _, _, _, _, _, _, _, _, _, _, _, _, _, _, _, _, _, _, _, _, _, _, _, _, _, _, _, _, _, _, _, _, _, _, _, _, _, _, _, _, _, _, _, _]) ?_
        refine s_val (v := (.agg #[.int .i64 e28.bal.r, .int .i64 e28.bal.n])) (wan_t (dj := 25) rfl rfl) (r_load rfl (Ld.row (cs := [.int .i64 e28.bal.r, .int .i64 e28.bal.n]) Try.underlying73 rfl (by kernel_rfl) (hB47.range 1 rfl))) (rfl : _ = [_, _, _, _, _, _, _, _, _, _, _, _, _, _, _, _, _, _, _, _, _, _, _, _, _, _, _, _, _, _, _, _, _, _, _, _, _, _, _, _, _, _, _, _, _, _, _]) ?_
        refine s_val (v := (.pointer (some ⟨a8, 1, none⟩))) (wan_t (dj := 25) rfl rfl) (r_field (k := 1) (o := 0) (by kernel_rfl) rfl) (rfl : _ = [_, _, _, _, _, _, _, _, _, _, _, _, _, _, _, _, _, _, _, _, _, _, _, _, _, _, _, _, _, _, _, _, _, _, _, _, _, _, _, _, _, _, _, _, _, _, _]) ?_
        refine s_val (v := (.agg #[.int .i64 cb.bal.r, .int .i64 cb.bal.n])) (wan_t (dj := 25) rfl rfl) (r_load rfl (Ld.row (cs := [.int .i64 cb.bal.r, .int .i64 cb.bal.n]) Try.underlying73 rfl (by kernel_rfl) (hB16.range 1 rfl))) (rfl : _ = [_, _, _, _, _, _, _, _, _, _, _, _, _, _, _, _, _, _, _, _, _, _, _, _, _, _, _, _, _, _, _, _, _, _, _, _, _, _, _, _, _, _, _, _, _, _, _]) ?_
        refine s_call 43 _ _ (by kernel_rfl) (wan_t (dj := 25) rfl rfl) rfl (cmpb_c e28.bal cb.bal) ?_
        rintro _ w52 ⟨rfl, hb53⟩
        refine norm (rfl : _ = [_, _, _, _, _, _, _, _, _, _, _, _, _, _, _, _, _, _, _, _, _, _, _, _, _, _, _, _, _, _, _, _, _, _, _, _, _, _, _, _, _, _, _, _, _, _, _]) ?_
        have hc54 := Chg.of_bel hb53
        have hs55 := hc54.size
        replace hb22 := hb22.chg hc54 (by omega)
        replace hB16 := hB16.chg hc54 (by omega)
        replace hbd := hbd.chg hc54 (by omega)
        replace hB4 := hB4.chg hc54 (by omega)
        replace hd38 := hd38.chg hc54 (by omega)
        replace hB47 := hB47.chg hc54 (by omega)
        refine s_bool (p := (0 < (cmpBal e28.bal cb.bal) : Prop)) (wan_t (dj := 25) rfl rfl) (r_gtr rfl rfl) decide_eq_true_iff ?_
        intro b56 hb56
        refine norm (rfl : _ = [_, _, _, _, _, _, _, _, _, _, _, _, _, _, _, _, _, _, _, _, _, _, _, _, _, _, _, _, _, _, _, _, _, _, _, _, _, _, _, _, _, _, _, _, _, _, _]) ?_
        refine s_val (v := (.bool b56)) (wan_t (dj := 22) rfl rfl) (r_pick rfl rfl) (rfl : _ = [_, _, _, _, _, _, _, _, _, _, _, _, _, _, _, _, _, _, _, _, _, _, _, _, _, _, _, _, _, _, _, _, _, _, _, _, _, _, _, _, _, _, _, _, _, _, _]) ?_
        refine s_val (v := (.bool b56)) rfl (r_pick rfl rfl) (rfl : _ = [_, _, _, _, _, _, _, _, _, _, _, _, _, _, _, _, _, _, _, _, _, _, _, _, _, _, _, _, _, _, _, _, _, _, _, _, _, _, _, _, _, _, _, _, _, _, _]) ?_
        refine s_nil rfl ?_
        refine x_seq ?_
        cases b56 with
        | true =>
          replace hb56 := bt hb56
          refine c_cond rfl (fun _ => ?_) (fun hh => by cases hh)
          refine c_region ?_
          refine s_val (v := (.agg #[.int .i64 e28.slot, .int .i64 e28.bal.r, .int .i64 e28.bal.n, .bool e28.ent.noop, .string e28.ent.sl.token, .string e28.ent.sl.cart, .int .i64 e28.ent.sl.epoch, d37])) rfl (r_load rfl (Ld.row (cs := [.int .i64 e28.slot, .int .i64 e28.bal.r, .int .i64 e28.bal.n, .bool e28.ent.noop, .string e28.ent.sl.token, .string e28.ent.sl.cart, .int .i64 e28.ent.sl.epoch, d37]) Try.underlying75 rfl (by kernel_rfl) (hB47.range 0 rfl))) (rfl : _ = [_, _, _, _, _, _, _, _, _, _, _, _, _, _, _, _, _, _, _, _, _, _, _, _, _, _, _, _, _, _, _, _, _, _, _, _, _, _, _, _, _, _, _, _, _, _, _]) ?_
          refine s_store (b := a8) (o := 0) (vs := [.int .i64 e28.slot, .int .i64 e28.bal.r, .int .i64 e28.bal.n, .bool e28.ent.noop, .string e28.ent.sl.token, .string e28.ent.sl.cart, .int .i64 e28.ent.sl.epoch, d37]) (cs := [.int .i64 cb.slot, .int .i64 cb.bal.r, .int .i64 cb.bal.n, .bool cb.ent.noop, .string cb.ent.sl.token, .string cb.ent.sl.cart, .int .i64 cb.ent.sl.epoch, bd]) (cs' := [.int .i64 e28.slot, .int .i64 e28.bal.r, .int .i64 e28.bal.n, .bool e28.ent.noop, .string e28.ent.sl.token, .string e28.ent.sl.cart, .int .i64 e28.ent.sl.epoch, d37]) 75 _ _ rfl (v := (.agg #[.int .i64 e28.slot, .int .i64 e28.bal.r, .int .i64 e28.bal.n, .bool e28.ent.noop, .string e28.ent.sl.token, .string e28.ent.sl.cart, .int .i64 e28.ent.sl.epoch, d37])) rfl rfl rfl hB16 (by kernel_rfl) ⟨rfl, rfl, rfl, rfl, rfl, rfl, rfl, hd38.one, trivial⟩ (by simp) rfl ?_
          intro w57 hB58 hc59 hz60
          have hs61 := hc59.size
          replace hb22 := hb22.chg hc59 (by omega)
          replace hbd := hbd.chg hc59 (by omega)
          replace hB4 := hB4.chg hc59 (by omega)
          replace hd38 := hd38.chg hc59 (by omega)
          replace hB47 := hB47.chg hc59 (by omega)
          refine s_val (v := (.bool true)) rfl (r_assign rfl) (rfl : _ = [_, _, _, _, _, _, _, _, _, _, _, _, _, _, _, _, _, _, _, _, _, _, _, _, _, _, _, _, _, _, _, _, _, _, _, _, _, _, _, _, _, _, _, _, _, _, _]) ?_
          refine s_nil rfl ?_
          refine x_block ?_
          refine x_seq ?_
          refine c_region ?_
          refine s_val (v := (.int .i64 ((i : Int) + 1))) rfl (r_add (c := (i : Int) + 1) rfl rfl (i64_in (by omega) (by omega))) (rfl : _ = [_, _, _, _, _, _, _, _, _, _, _, _, _, _, _, _, _, _, _, _, _, _, _, _, _, _, _, _, _, _, _, _, _, _, _, _, _, _, _, _, _, _, _, _, _, _, _]) ?_
          refine s_val (v := (.int .i64 ((i : Int) + 1))) rfl (r_move rfl) (rfl : _ = [_, _, _, _, _, _, _, _, _, _, _, _, _, _, _, _, _, _, _, _, _, _, _, _, _, _, _, _, _, _, _, _, _, _, _, _, _, _, _, _, _, _, _, _, _, _, _]) ?_
          refine s_nil rfl ?_
          refine x_then ?_
          refine ⟨_, _, ?_, rfl, (i + 1), e28, true, d37, (fun n_ => ([jk21 0, jk21 1, jk21 2, jk21 3, .pointer (some ⟨a39, 0, none⟩), jk21 5, jk21 6, .bool true, .pointer (some ⟨a29, o30, none⟩), .agg #[.int .i64 e28.slot, .int .i64 e28.bal.r, .int .i64 e28.bal.n, .bool e28.ent.noop, .string e28.ent.sl.token, .string e28.ent.sl.cart, .int .i64 e28.ent.sl.epoch, d37], .pointer (some ⟨a39, 0, none⟩), .int .i64 e28.slot, .int .i64 slot, .bool true, .bool true, .bool true, .bool false, .bool false, .pointer (some ⟨a39, 1, none⟩), .agg #[.int .i64 e28.bal.r, .int .i64 e28.bal.n], .pointer (some ⟨a8, 1, none⟩), .agg #[.int .i64 cb.bal.r, .int .i64 cb.bal.n], .int .i64 (cmpBal e28.bal cb.bal), .bool true, .bool true, .bool true, .agg #[.int .i64 e28.slot, .int .i64 e28.bal.r, .int .i64 e28.bal.n, .bool e28.ent.noop, .string e28.ent.sl.token, .string e28.ent.sl.cart, .int .i64 e28.ent.sl.epoch, d37], .int .i64 ((i : Int) + 1)] : List Value).getD n_ undef), rfl, rfl, (by omega), (by rw [pickL_snoc _ he32, hp]; exact pick_yes (by assumption) (by first | exact .inl rfl | exact .inr (by assumption))), hb22, hB58, hd38, hB4⟩
          omega
        | false =>
          replace hb56 := bf hb56
          refine c_cond rfl (fun hh => by cases hh) (fun _ => ?_)
          refine c_skip ?_
          refine x_block ?_
          refine x_seq ?_
          refine c_region ?_
          refine s_val (v := (.int .i64 ((i : Int) + 1))) rfl (r_add (c := (i : Int) + 1) rfl rfl (i64_in (by omega) (by omega))) (rfl : _ = [_, _, _, _, _, _, _, _, _, _, _, _, _, _, _, _, _, _, _, _, _, _, _, _, _, _, _, _, _, _, _, _, _, _, _, _, _, _, _, _, _, _, _, _, _, _, _]) ?_
          refine s_val (v := (.int .i64 ((i : Int) + 1))) rfl (r_move rfl) (rfl : _ = [_, _, _, _, _, _, _, _, _, _, _, _, _, _, _, _, _, _, _, _, _, _, _, _, _, _, _, _, _, _, _, _, _, _, _, _, _, _, _, _, _, _, _, _, _, _, _]) ?_
          refine s_nil rfl ?_
          refine x_then ?_
          refine ⟨_, _, ?_, rfl, (i + 1), cb, true, bd, (fun n_ => ([jk21 0, jk21 1, jk21 2, jk21 3, .pointer (some ⟨a39, 0, none⟩), jk21 5, jk21 6, .bool true, .pointer (some ⟨a29, o30, none⟩), .agg #[.int .i64 e28.slot, .int .i64 e28.bal.r, .int .i64 e28.bal.n, .bool e28.ent.noop, .string e28.ent.sl.token, .string e28.ent.sl.cart, .int .i64 e28.ent.sl.epoch, d37], .pointer (some ⟨a39, 0, none⟩), .int .i64 e28.slot, .int .i64 slot, .bool true, .bool true, .bool true, .bool false, .bool false, .pointer (some ⟨a39, 1, none⟩), .agg #[.int .i64 e28.bal.r, .int .i64 e28.bal.n], .pointer (some ⟨a8, 1, none⟩), .agg #[.int .i64 cb.bal.r, .int .i64 cb.bal.n], .int .i64 (cmpBal e28.bal cb.bal), .bool false, .bool false, .bool false, jk21 26, .int .i64 ((i : Int) + 1)] : List Value).getD n_ undef), rfl, rfl, (by omega), (by rw [pickL_snoc _ he32, hp]; exact pick_no (by first | exact .inl (by assumption) | exact .inr ⟨rfl, by assumption⟩)), hb22, hB16, hbd, hB4⟩
          omega
      | false =>
        refine s_skip (wan_f (dj := 25) rfl rfl rfl) (rfl : _ = [_, _, _, _, _, _, _, _, _, _, _, _, _, _, _, _, _, _, _, _, _, _, _, _, _, _, _, _, _, _, _, _, _, _, _, _, _, _, _, _, _, _, _, _, _, _, _]) ?_
        refine s_skip (wan_f (dj := 25) rfl rfl rfl) (rfl : _ = [_, _, _, _, _, _, _, _, _, _, _, _, _, _, _, _, _, _, _, _, _, _, _, _, _, _, _, _, _, _, _, _, _, _, _, _, _, _, _, _, _, _, _, _, _, _, _]) ?_
        refine s_skip (wan_f (dj := 25) rfl rfl rfl) (rfl : _ = [_, _, _, _, _, _, _, _, _, _, _, _, _, _, _, _, _, _, _, _, _, _, _, _, _, _, _, _, _, _, _, _, _, _, _, _, _, _, _, _, _, _, _, _, _, _, _]) ?_
        refine s_skip (wan_f (dj := 25) rfl rfl rfl) (rfl : _ = [_, _, _, _, _, _, _, _, _, _, _, _, _, _, _, _, _, _, _, _, _, _, _, _, _, _, _, _, _, _, _, _, _, _, _, _, _, _, _, _, _, _, _, _, _, _, _]) ?_
        refine s_skip (wan_f (dj := 25) rfl rfl rfl) (rfl : _ = [_, _, _, _, _, _, _, _, _, _, _, _, _, _, _, _, _, _, _, _, _, _, _, _, _, _, _, _, _, _, _, _, _, _, _, _, _, _, _, _, _, _, _, _, _, _, _]) ?_
        refine s_skip (wan_f (dj := 25) rfl rfl rfl) (rfl : _ = [_, _, _, _, _, _, _, _, _, _, _, _, _, _, _, _, _, _, _, _, _, _, _, _, _, _, _, _, _, _, _, _, _, _, _, _, _, _, _, _, _, _, _, _, _, _, _]) ?_
        refine s_val (v := (.bool true)) (wan_t (dj := 22) rfl rfl) (r_pick rfl rfl) (rfl : _ = [_, _, _, _, _, _, _, _, _, _, _, _, _, _, _, _, _, _, _, _, _, _, _, _, _, _, _, _, _, _, _, _, _, _, _, _, _, _, _, _, _, _, _, _, _, _, _]) ?_
        refine s_val (v := (.bool true)) rfl (r_pick rfl rfl) (rfl : _ = [_, _, _, _, _, _, _, _, _, _, _, _, _, _, _, _, _, _, _, _, _, _, _, _, _, _, _, _, _, _, _, _, _, _, _, _, _, _, _, _, _, _, _, _, _, _, _]) ?_
        refine s_nil rfl ?_
        refine x_seq ?_
        refine c_cond rfl (fun _ => ?_) (fun hh => by cases hh)
        refine c_region ?_
        refine s_val (v := (.agg #[.int .i64 e28.slot, .int .i64 e28.bal.r, .int .i64 e28.bal.n, .bool e28.ent.noop, .string e28.ent.sl.token, .string e28.ent.sl.cart, .int .i64 e28.ent.sl.epoch, d37])) rfl (r_load rfl (Ld.row (cs := [.int .i64 e28.slot, .int .i64 e28.bal.r, .int .i64 e28.bal.n, .bool e28.ent.noop, .string e28.ent.sl.token, .string e28.ent.sl.cart, .int .i64 e28.ent.sl.epoch, d37]) Try.underlying75 rfl (by kernel_rfl) (hB47.range 0 rfl))) (rfl : _ = [_, _, _, _, _, _, _, _, _, _, _, _, _, _, _, _, _, _, _, _, _, _, _, _, _, _, _, _, _, _, _, _, _, _, _, _, _, _, _, _, _, _, _, _, _, _, _]) ?_
        refine s_store (b := a8) (o := 0) (vs := [.int .i64 e28.slot, .int .i64 e28.bal.r, .int .i64 e28.bal.n, .bool e28.ent.noop, .string e28.ent.sl.token, .string e28.ent.sl.cart, .int .i64 e28.ent.sl.epoch, d37]) (cs := [.int .i64 cb.slot, .int .i64 cb.bal.r, .int .i64 cb.bal.n, .bool cb.ent.noop, .string cb.ent.sl.token, .string cb.ent.sl.cart, .int .i64 cb.ent.sl.epoch, bd]) (cs' := [.int .i64 e28.slot, .int .i64 e28.bal.r, .int .i64 e28.bal.n, .bool e28.ent.noop, .string e28.ent.sl.token, .string e28.ent.sl.cart, .int .i64 e28.ent.sl.epoch, d37]) 75 _ _ rfl (v := (.agg #[.int .i64 e28.slot, .int .i64 e28.bal.r, .int .i64 e28.bal.n, .bool e28.ent.noop, .string e28.ent.sl.token, .string e28.ent.sl.cart, .int .i64 e28.ent.sl.epoch, d37])) rfl rfl rfl hB16 (by kernel_rfl) ⟨rfl, rfl, rfl, rfl, rfl, rfl, rfl, hd38.one, trivial⟩ (by simp) rfl ?_
        intro w62 hB63 hc64 hz65
        have hs66 := hc64.size
        replace hb22 := hb22.chg hc64 (by omega)
        replace hbd := hbd.chg hc64 (by omega)
        replace hB4 := hB4.chg hc64 (by omega)
        replace hd38 := hd38.chg hc64 (by omega)
        replace hB47 := hB47.chg hc64 (by omega)
        refine s_val (v := (.bool true)) rfl (r_assign rfl) (rfl : _ = [_, _, _, _, _, _, _, _, _, _, _, _, _, _, _, _, _, _, _, _, _, _, _, _, _, _, _, _, _, _, _, _, _, _, _, _, _, _, _, _, _, _, _, _, _, _, _]) ?_
        refine s_nil rfl ?_
        refine x_block ?_
        refine x_seq ?_
        refine c_region ?_
        refine s_val (v := (.int .i64 ((i : Int) + 1))) rfl (r_add (c := (i : Int) + 1) rfl rfl (i64_in (by omega) (by omega))) (rfl : _ = [_, _, _, _, _, _, _, _, _, _, _, _, _, _, _, _, _, _, _, _, _, _, _, _, _, _, _, _, _, _, _, _, _, _, _, _, _, _, _, _, _, _, _, _, _, _, _]) ?_
        refine s_val (v := (.int .i64 ((i : Int) + 1))) rfl (r_move rfl) (rfl : _ = [_, _, _, _, _, _, _, _, _, _, _, _, _, _, _, _, _, _, _, _, _, _, _, _, _, _, _, _, _, _, _, _, _, _, _, _, _, _, _, _, _, _, _, _, _, _, _]) ?_
        refine s_nil rfl ?_
        refine x_then ?_
        refine ⟨_, _, ?_, rfl, (i + 1), e28, true, d37, (fun n_ => ([jk21 0, jk21 1, jk21 2, jk21 3, .pointer (some ⟨a39, 0, none⟩), jk21 5, jk21 6, .bool true, .pointer (some ⟨a29, o30, none⟩), .agg #[.int .i64 e28.slot, .int .i64 e28.bal.r, .int .i64 e28.bal.n, .bool e28.ent.noop, .string e28.ent.sl.token, .string e28.ent.sl.cart, .int .i64 e28.ent.sl.epoch, d37], .pointer (some ⟨a39, 0, none⟩), .int .i64 e28.slot, .int .i64 slot, .bool true, .bool true, .bool false, .bool true, .bool true, undef, undef, undef, undef, undef, undef, .bool true, .bool true, .agg #[.int .i64 e28.slot, .int .i64 e28.bal.r, .int .i64 e28.bal.n, .bool e28.ent.noop, .string e28.ent.sl.token, .string e28.ent.sl.cart, .int .i64 e28.ent.sl.epoch, d37], .int .i64 ((i : Int) + 1)] : List Value).getD n_ undef), rfl, rfl, (by omega), (by rw [pickL_snoc _ he32, hp]; exact pick_yes (by assumption) (by first | exact .inl rfl | exact .inr (by assumption))), hb22, hB63, hd38, hB4⟩
        omega
    | false =>
      replace hb51 := bf hb51
      refine s_skip (wan_f (dj := 22) rfl rfl rfl) (rfl : _ = [_, _, _, _, _, _, _, _, _, _, _, _, _, _, _, _, _, _, _, _, _, _, _, _, _, _, _, _, _, _, _, _, _, _, _, _, _, _, _, _, _, _, _, _, _, _, _]) ?_
      refine s_skip (wan_f (dj := 22) rfl rfl rfl) (rfl : _ = [_, _, _, _, _, _, _, _, _, _, _, _, _, _, _, _, _, _, _, _, _, _, _, _, _, _, _, _, _, _, _, _, _, _, _, _, _, _, _, _, _, _, _, _, _, _, _]) ?_
      refine s_skip (wan_f (dj := 22) rfl rfl rfl) (rfl : _ = [_, _, _, _, _, _, _, _, _, _, _, _, _, _, _, _, _, _, _, _, _, _, _, _, _, _, _, _, _, _, _, _, _, _, _, _, _, _, _, _, _, _, _, _, _, _, _]) ?_
      refine s_skip (wan_u (dj := 25) rfl rfl) (rfl : _ = [_, _, _, _, _, _, _, _, _, _, _, _, _, _, _, _, _, _, _, _, _, _, _, _, _, _, _, _, _, _, _, _, _, _, _, _, _, _, _, _, _, _, _, _, _, _, _]) ?_
      refine s_skip (wan_u (dj := 25) rfl rfl) (rfl : _ = [_, _, _, _, _, _, _, _, _, _, _, _, _, _, _, _, _, _, _, _, _, _, _, _, _, _, _, _, _, _, _, _, _, _, _, _, _, _, _, _, _, _, _, _, _, _, _]) ?_
      refine s_skip (wan_u (dj := 25) rfl rfl) (rfl : _ = [_, _, _, _, _, _, _, _, _, _, _, _, _, _, _, _, _, _, _, _, _, _, _, _, _, _, _, _, _, _, _, _, _, _, _, _, _, _, _, _, _, _, _, _, _, _, _]) ?_
      refine s_skip (wan_u (dj := 25) rfl rfl) (rfl : _ = [_, _, _, _, _, _, _, _, _, _, _, _, _, _, _, _, _, _, _, _, _, _, _, _, _, _, _, _, _, _, _, _, _, _, _, _, _, _, _, _, _, _, _, _, _, _, _]) ?_
      refine s_skip (wan_u (dj := 25) rfl rfl) (rfl : _ = [_, _, _, _, _, _, _, _, _, _, _, _, _, _, _, _, _, _, _, _, _, _, _, _, _, _, _, _, _, _, _, _, _, _, _, _, _, _, _, _, _, _, _, _, _, _, _]) ?_
      refine s_skip (wan_u (dj := 25) rfl rfl) (rfl : _ = [_, _, _, _, _, _, _, _, _, _, _, _, _, _, _, _, _, _, _, _, _, _, _, _, _, _, _, _, _, _, _, _, _, _, _, _, _, _, _, _, _, _, _, _, _, _, _]) ?_
      refine s_skip (wan_f (dj := 22) rfl rfl rfl) (rfl : _ = [_, _, _, _, _, _, _, _, _, _, _, _, _, _, _, _, _, _, _, _, _, _, _, _, _, _, _, _, _, _, _, _, _, _, _, _, _, _, _, _, _, _, _, _, _, _, _]) ?_
      refine s_val (v := (.bool false)) rfl (r_pick rfl rfl) (rfl : _ = [_, _, _, _, _, _, _, _, _, _, _, _, _, _, _, _, _, _, _, _, _, _, _, _, _, _, _, _, _, _, _, _, _, _, _, _, _, _, _, _, _, _, _, _, _, _, _]) ?_
      refine s_nil rfl ?_
      refine x_seq ?_
      refine c_cond rfl (fun hh => by cases hh) (fun _ => ?_)
      refine c_skip ?_
      refine x_block ?_
      refine x_seq ?_
      refine c_region ?_
      refine s_val (v := (.int .i64 ((i : Int) + 1))) rfl (r_add (c := (i : Int) + 1) rfl rfl (i64_in (by omega) (by omega))) (rfl : _ = [_, _, _, _, _, _, _, _, _, _, _, _, _, _, _, _, _, _, _, _, _, _, _, _, _, _, _, _, _, _, _, _, _, _, _, _, _, _, _, _, _, _, _, _, _, _, _]) ?_
      refine s_val (v := (.int .i64 ((i : Int) + 1))) rfl (r_move rfl) (rfl : _ = [_, _, _, _, _, _, _, _, _, _, _, _, _, _, _, _, _, _, _, _, _, _, _, _, _, _, _, _, _, _, _, _, _, _, _, _, _, _, _, _, _, _, _, _, _, _, _]) ?_
      refine s_nil rfl ?_
      refine x_then ?_
      refine ⟨_, _, ?_, rfl, (i + 1), cb, cf, bd, (fun n_ => ([jk21 0, jk21 1, jk21 2, jk21 3, .pointer (some ⟨a39, 0, none⟩), jk21 5, jk21 6, .bool true, .pointer (some ⟨a29, o30, none⟩), .agg #[.int .i64 e28.slot, .int .i64 e28.bal.r, .int .i64 e28.bal.n, .bool e28.ent.noop, .string e28.ent.sl.token, .string e28.ent.sl.cart, .int .i64 e28.ent.sl.epoch, d37], .pointer (some ⟨a39, 0, none⟩), .int .i64 e28.slot, .int .i64 slot, .bool false, .bool false, undef, undef, undef, undef, undef, undef, undef, undef, undef, undef, .bool false, jk21 26, .int .i64 ((i : Int) + 1)] : List Value).getD n_ undef), rfl, rfl, (by omega), (by rw [pickL_snoc _ he32, hp]; exact pick_no (by first | exact .inl (by assumption) | exact .inr ⟨rfl, by assumption⟩)), hb22, hB16, hbd, hB4⟩
      omega
  | false =>
    replace hb27 := bf hb27
    refine c_cond rfl (fun hh => by cases hh) (fun _ => ?_)
    refine c_exit ?_
    refine x_then_exit ?_
    refine x_then_exit ?_
    refine x_block_same ?_
    refine x_seq ?_
    refine c_seq ?_
    refine c_region ?_
    refine s_val (v := (.pointer (some ⟨a8, 3, none⟩))) rfl (r_field (k := 3) (o := 0) (by kernel_rfl) rfl) (rfl : _ = [_, _, _, _, _, _, _, _, _, _, _, _, _, _, _, _, _, _, _, _, _, _, _, _, _, _, _, _, _, _, _, _, _, _, _, _, _, _, _, _, _, _, _, _, _, _, _]) ?_
    refine s_val (v := (.pointer (some ⟨a8, 4, none⟩))) rfl (r_field (k := 1) (o := 3) (by kernel_rfl) rfl) (rfl : _ = [_, _, _, _, _, _, _, _, _, _, _, _, _, _, _, _, _, _, _, _, _, _, _, _, _, _, _, _, _, _, _, _, _, _, _, _, _, _, _, _, _, _, _, _, _, _, _]) ?_
    refine s_val (v := (.pointer (some ⟨a8, 7, none⟩))) rfl (r_field (k := 3) (o := 4) (by kernel_rfl) rfl) (rfl : _ = [_, _, _, _, _, _, _, _, _, _, _, _, _, _, _, _, _, _, _, _, _, _, _, _, _, _, _, _, _, _, _, _, _, _, _, _, _, _, _, _, _, _, _, _, _, _, _]) ?_
    refine s_val (v := bd) rfl (r_load rfl (Ld.one Try.underlying23 rfl (hB16.cell (i := 7) rfl))) (rfl : _ = [_, _, _, _, _, _, _, _, _, _, _, _, _, _, _, _, _, _, _, _, _, _, _, _, _, _, _, _, _, _, _, _, _, _, _, _, _, _, _, _, _, _, _, _, _, _, _]) ?_
    refine s_call 44 _ _ (by kernel_rfl) rfl rfl (clone_c hbd) ?_
    rintro v67 w68 ⟨hS69, hb70⟩
    refine norm (rfl : _ = [_, _, _, _, _, _, _, _, _, _, _, _, _, _, _, _, _, _, _, _, _, _, _, _, _, _, _, _, _, _, _, _, _, _, _, _, _, _, _, _, _, _, _, _, _, _, _]) ?_
    have hc71 := Chg.of_bel hb70
    have hs72 := hc71.size
    replace hb22 := hb22.chg hc71 (by omega)
    replace hB16 := hB16.chg hc71 (by omega)
    replace hbd := hbd.chg hc71 (by omega)
    replace hB4 := hB4.chg hc71 (by omega)
    refine s_val (v := (.pointer (some ⟨a8, 3, none⟩))) rfl (r_field (k := 3) (o := 0) (by kernel_rfl) rfl) (rfl : _ = [_, _, _, _, _, _, _, _, _, _, _, _, _, _, _, _, _, _, _, _, _, _, _, _, _, _, _, _, _, _, _, _, _, _, _, _, _, _, _, _, _, _, _, _, _, _, _]) ?_
    refine s_val (v := (.pointer (some ⟨a8, 4, none⟩))) rfl (r_field (k := 1) (o := 3) (by kernel_rfl) rfl) (rfl : _ = [_, _, _, _, _, _, _, _, _, _, _, _, _, _, _, _, _, _, _, _, _, _, _, _, _, _, _, _, _, _, _, _, _, _, _, _, _, _, _, _, _, _, _, _, _, _, _]) ?_
    refine s_val (v := (.pointer (some ⟨a8, 7, none⟩))) rfl (r_field (k := 3) (o := 4) (by kernel_rfl) rfl) (rfl : _ = [_, _, _, _, _, _, _, _, _, _, _, _, _, _, _, _, _, _, _, _, _, _, _, _, _, _, _, _, _, _, _, _, _, _, _, _, _, _, _, _, _, _, _, _, _, _, _]) ?_
    refine s_store (b := a8) (o := 7) (vs := [v67]) (cs := [.int .i64 cb.slot, .int .i64 cb.bal.r, .int .i64 cb.bal.n, .bool cb.ent.noop, .string cb.ent.sl.token, .string cb.ent.sl.cart, .int .i64 cb.ent.sl.epoch, bd]) (cs' := [.int .i64 cb.slot, .int .i64 cb.bal.r, .int .i64 cb.bal.n, .bool cb.ent.noop, .string cb.ent.sl.token, .string cb.ent.sl.cart, .int .i64 cb.ent.sl.epoch, v67]) 23 _ _ rfl (v := v67) rfl rfl hS69.cells hB16 (by kernel_rfl) ⟨hS69.one, trivial⟩ (by simp) rfl ?_
    intro w73 hB74 hc75 hz76
    have hs77 := hc75.size
    replace hb22 := hb22.chg hc75 (by omega)
    replace hbd := hbd.chg hc75 (by omega)
    replace hB4 := hB4.chg hc75 (by omega)
    replace hS69 := hS69.chg hc75 (by omega)
    refine s_nil rfl ?_
    refine x_seq ?_
    refine c_seq ?_
    refine c_region ?_
    refine s_val (v := (.pointer (some ⟨a8, 3, none⟩))) rfl (r_field (k := 3) (o := 0) (by kernel_rfl) rfl) (rfl : _ = [_, _, _, _, _, _, _, _, _, _, _, _, _, _, _, _, _, _, _, _, _, _, _, _, _, _, _, _, _, _, _, _, _, _, _, _, _, _, _, _, _, _, _, _, _, _, _]) ?_
    refine s_val (v := (.agg #[.bool cb.ent.noop, .string cb.ent.sl.token, .string cb.ent.sl.cart, .int .i64 cb.ent.sl.epoch, v67])) rfl (r_load rfl (Ld.row (cs := [.bool cb.ent.noop, .string cb.ent.sl.token, .string cb.ent.sl.cart, .int .i64 cb.ent.sl.epoch, v67]) Try.underlying27 rfl (by kernel_rfl) (hB74.range 3 rfl))) (rfl : _ = [_, _, _, _, _, _, _, _, _, _, _, _, _, _, _, _, _, _, _, _, _, _, _, _, _, _, _, _, _, _, _, _, _, _, _, _, _, _, _, _, _, _, _, _, _, _, _]) ?_
    refine s_val (v := (.bool cf)) rfl (r_move rfl) (rfl : _ = [_, _, _, _, _, _, _, _, _, _, _, _, _, _, _, _, _, _, _, _, _, _, _, _, _, _, _, _, _, _, _, _, _, _, _, _, _, _, _, _, _, _, _, _, _, _, _]) ?_
    refine s_store (b := a1) (o := 0) (vs := [.bool cb.ent.noop, .string cb.ent.sl.token, .string cb.ent.sl.cart, .int .i64 cb.ent.sl.epoch, v67]) (cs := [.bool false, .string ⟨#[]⟩, .string ⟨#[]⟩, .int .i64 0, .slice none 0 0]) (cs' := [.bool cb.ent.noop, .string cb.ent.sl.token, .string cb.ent.sl.cart, .int .i64 cb.ent.sl.epoch, v67]) 27 _ _ rfl (v := (.agg #[.bool cb.ent.noop, .string cb.ent.sl.token, .string cb.ent.sl.cart, .int .i64 cb.ent.sl.epoch, v67])) rfl rfl rfl hB4 (by kernel_rfl) ⟨rfl, rfl, rfl, rfl, hS69.one, trivial⟩ (by simp) rfl ?_
    intro w78 hB79 hc80 hz81
    have hs82 := hc80.size
    replace hb22 := hb22.chg hc80 (by omega)
    replace hbd := hbd.chg hc80 (by omega)
    replace hS69 := hS69.chg hc80 (by omega)
    replace hB74 := hB74.chg hc80 (by omega)
    refine s_val (v := (.bool cf)) rfl (r_assign rfl) (rfl : _ = [_, _, _, _, _, _, _, _, _, _, _, _, _, _, _, _, _, _, _, _, _, _, _, _, _, _, _, _, _, _, _, _, _, _, _, _, _, _, _, _, _, _, _, _, _, _, _]) ?_
    refine s_nil rfl ?_
    refine x_seq ?_
    refine c_ret ?_
    refine post_cell2 rfl rfl (Ld.row (cs := [.bool cb.ent.noop, .string cb.ent.sl.token, .string cb.ent.sl.cart, .int .i64 cb.ent.sl.epoch, v67]) Try.underlying27 rfl (by kernel_rfl) (hB79.range 0 rfl)) rfl ?_
    have hi2 : i = l.length := by omega
    subst hi2
    rw [List.take_length] at hp
    rw [hp] at hbf
    injection hbf with e1 e2
    subst e1
    subst e2
    exact ⟨⟨_, rfl, hS69.rg (by decide) (fun b hl hh => by omega)⟩, hb22⟩

theorem pickr_c {ok : Nat → Prop} {w : World} {v : Value} {l : List Vot} (hS : Sl kVot ok w v l) (slot : Int) {best : Vot} {found : Bool} (hbf : pickL slot l = (best, found)) :
    CallsV Try.prog 14 #[v, (.int .i64 slot)] w (fun r w' => (∃ d', r = .tuple #[.agg #[.bool best.ent.noop, .string best.ent.sl.token, .string best.ent.sl.cart, .int .i64 best.ent.sl.epoch, d'], .bool found] ∧ Sl kInt (Rg w.heap.size w.heap.size w'.heap.size) w' d' best.ent.sl.cut) ∧ Bel w w') := by
  have hb := Bel.refl w
  replace hS : Sl kVot (Rg w.heap.size 0 0) w v l := hS.weak (by decide) (fun b _ hl => .inl hl)
  have hSlim := lim_le hS.lim
  refine callsV_of Try.func14 (m := 46) Try.ntmps14 rfl rfl (l := [v, .int .i64 slot, undef, undef, undef, undef, undef, undef, undef, undef, undef, undef, undef, undef, undef, undef, undef, undef, undef, undef, undef, undef, undef, undef, undef, undef, undef, undef, undef, undef, undef, undef, undef, undef, undef, undef, undef, undef, undef, undef, undef, undef, undef, undef, undef, undef, undef, undef]) rfl ?_
  refine c_seq ?_
  refine c_region ?_
  refine s_alloc (z := (.agg #[.bool false, .string ⟨#[]⟩, .string ⟨#[]⟩, .int .i64 0, .slice none 0 0])) 27 (by kernel_rfl) rfl ?_
  intro a1 w2 he3 hB4 hc5 hz6
  refine norm (rfl : _ = [_, _, _, _, _, _, _, _, _, _, _, _, _, _, _, _, _, _, _, _, _, _, _, _, _, _, _, _, _, _, _, _, _, _, _, _, _, _, _, _, _, _, _, _, _, _, _, _]) ?_
  have hs7 := hc5.size
  replace hb := hb.chg hc5 (by omega)
  refine s_val (v := (.bool false)) rfl (r_assign rfl) (rfl : _ = [_, _, _, _, _, _, _, _, _, _, _, _, _, _, _, _, _, _, _, _, _, _, _, _, _, _, _, _, _, _, _, _, _, _, _, _, _, _, _, _, _, _, _, _, _, _, _, _]) ?_
  refine s_nil rfl ?_
  refine x_seq ?_
  refine c_seq ?_
  refine c_region ?_
  refine s_val (v := (.int .i64 (-1))) rfl (r_assign rfl) (rfl : _ = [_, _, _, _, _, _, _, _, _, _, _, _, _, _, _, _, _, _, _, _, _, _, _, _, _, _, _, _, _, _, _, _, _, _, _, _, _, _, _, _, _, _, _, _, _, _, _, _]) ?_
  refine s_nil rfl ?_
  refine x_seq ?_
  refine c_seq ?_
  refine c_seq ?_
  refine c_region ?_
  refine s_val (v := (.int .i64 0)) rfl (r_assign rfl) (rfl : _ = [_, _, _, _, _, _, _, _, _, _, _, _, _, _, _, _, _, _, _, _, _, _, _, _, _, _, _, _, _, _, _, _, _, _, _, _, _, _, _, _, _, _, _, _, _, _, _, _]) ?_
  refine s_nil rfl ?_
  refine x_seq ?_
  refine c_block ?_
  refine c_loop (fun kk_ fr_ wr8 => ∃ (i : Nat) (bi : Int) (pb : Vot) (pf : Bool) (jk9 : Nat → Value), kk_ = l.length - i ∧ fr_ = [v, .int .i64 slot, jk9 0, jk9 1, .pointer (some ⟨a1, 0, none⟩), .bool false, .int .i64 bi, .int .i64 (i : Int), jk9 2, jk9 3, jk9 4, jk9 5, jk9 6, jk9 7, jk9 8, jk9 9, jk9 10, jk9 11, jk9 12, jk9 13, jk9 14, jk9 15, jk9 16, jk9 17, jk9 18, jk9 19, jk9 20, jk9 21, jk9 22, jk9 23, jk9 24, jk9 25, jk9 26, jk9 27, jk9 28, jk9 29, jk9 30, jk9 31, jk9 32, jk9 33, undef, undef, undef, undef, undef, undef, undef, undef] ∧ (i ≤ l.length) ∧ (bi < i) ∧ (-1 ≤ bi) ∧ (pickL slot (l.take i) = (pb, pf)) ∧ (bi < 0 → pb = vot0 ∧ pf = false) ∧ (0 ≤ bi → l[bi.toNat]? = some pb ∧ pf = true) ∧ Bel w wr8 ∧ Bx wr8 a1 [.bool false, .string ⟨#[]⟩, .string ⟨#[]⟩, .int .i64 0, .slice none 0 0] 27) _ ⟨0, (-1), vot0, false, (fun n_ => ([undef, undef, undef, undef, undef, undef, undef, undef, undef, undef, undef, undef, undef, undef, undef, undef, undef, undef, undef, undef, undef, undef, undef, undef, undef, undef, undef, undef, undef, undef, undef, undef, undef, undef] : List Value).getD n_ undef), rfl, rfl, (Nat.zero_le _), (by omega), (by omega), rfl, (fun _ => ⟨rfl, rfl⟩), (fun hh => by omega), hb, hB4⟩ ?_
  rintro _ _ wr8 ⟨i, bi, pb, pf, jk9, rfl, rfl, hi, hbi, hbl, hp, hneg, hpos, hb10, hB4⟩
  have hs11 := hb10.size
  have hl12 := hB4.lt
  refine c_seq ?_
  refine c_seq ?_
  refine c_region ?_
  refine s_val (v := (.int .i64 (i : Int))) rfl (r_move rfl) (rfl : _ = [_, _, _, _, _, _, _, _, _, _, _, _, _, _, _, _, _, _, _, _, _, _, _, _, _, _, _, _, _, _, _, _, _, _, _, _, _, _, _, _, _, _, _, _, _, _, _, _]) ?_
  refine s_val (v := v) rfl (r_move rfl) (rfl : _ = [_, _, _, _, _, _, _, _, _, _, _, _, _, _, _, _, _, _, _, _, _, _, _, _, _, _, _, _, _, _, _, _, _, _, _, _, _, _, _, _, _, _, _, _, _, _, _, _]) ?_
  refine s_val (v := (.int .i64 (l.length : Int))) rfl ((hS.at_ hb10).len Try.underlying22 rfl _) (rfl : _ = [_, _, _, _, _, _, _, _, _, _, _, _, _, _, _, _, _, _, _, _, _, _, _, _, _, _, _, _, _, _, _, _, _, _, _, _, _, _, _, _, _, _, _, _, _, _, _, _]) ?_
  refine s_bool (p := ((i : Int) < (l.length : Int) : Prop)) rfl (r_lss rfl rfl) decide_eq_true_iff ?_
  intro b13 hb13
  refine norm (rfl : _ = [_, _, _, _, _, _, _, _, _, _, _, _, _, _, _, _, _, _, _, _, _, _, _, _, _, _, _, _, _, _, _, _, _, _, _, _, _, _, _, _, _, _, _, _, _, _, _, _]) ?_
  refine s_nil rfl ?_
  refine x_seq ?_
  cases b13 with
  | true =>
    replace hb13 := bt hb13
    refine c_cond rfl (fun _ => ?_) (fun hh => by cases hh)
    refine c_skip ?_
    refine x_seq ?_
    refine c_seq ?_
    refine c_block ?_
    refine c_seq ?_
    refine c_draw (by kernel_rfl) (by kernel_rfl) ?_
    refine q_val (v := v) rfl (fun w' hC => r_move rfl) (rfl : _ = [_, _, _, _, _, _, _, _, _, _, _, _, _, _, _, _, _, _, _, _, _, _, _, _, _, _, _, _, _, _, _, _, _, _, _, _, _, _, _, _, _, _, _, _, _, _, _, _]) ?_
    refine q_val (v := (.int .i64 (i : Int))) rfl (fun w' hC => r_move rfl) (rfl : _ = [_, _, _, _, _, _, _, _, _, _, _, _, _, _, _, _, _, _, _, _, _, _, _, _, _, _, _, _, _, _, _, _, _, _, _, _, _, _, _, _, _, _, _, _, _, _, _, _]) ?_
    obtain ⟨e14, a15, o16, c17, he18, hc19, hr20, hk21, hi22⟩ := (hS.at_ hb10).idx (j := (i : Int)) (by omega) (by omega)
    rw [Int.toNat_natCast] at he18
    obtain ⟨d23, rfl, hd24⟩ := kVot_cells.1 hc19
    refine q_val rfl (fun w' hC => hi22 _ _ _ _ _ _ _ (by kernel_rfl) rfl rfl) (rfl : _ = [_, _, _, _, _, _, _, _, _, _, _, _, _, _, _, _, _, _, _, _, _, _, _, _, _, _, _, _, _, _, _, _, _, _, _, _, _, _, _, _, _, _, _, _, _, _, _, _]) ?_
    refine q_val (v := (.pointer (some ⟨a15, o16 + 0, none⟩))) rfl (fun w' hC => r_field (k := 0) (o := o16) (by kernel_rfl) rfl) (rfl : _ = [_, _, _, _, _, _, _, _, _, _, _, _, _, _, _, _, _, _, _, _, _, _, _, _, _, _, _, _, _, _, _, _, _, _, _, _, _, _, _, _, _, _, _, _, _, _, _, _]) ?_
    refine q_val (v := (.int .i64 e14.slot)) rfl (fun w' hC => r_load rfl (Ld.one Try.underlying3 rfl ((range_below hr20 hC) 0 _ rfl))) (rfl : _ = [_, _, _, _, _, _, _, _, _, _, _, _, _, _, _, _, _, _, _, _, _, _, _, _, _, _, _, _, _, _, _, _, _, _, _, _, _, _, _, _, _, _, _, _, _, _, _, _]) ?_
    refine q_val (v := (.int .i64 slot)) rfl (fun w' hC => r_move rfl) (rfl : _ = [_, _, _, _, _, _, _, _, _, _, _, _, _, _, _, _, _, _, _, _, _, _, _, _, _, _, _, _, _, _, _, _, _, _, _, _, _, _, _, _, _, _, _, _, _, _, _, _]) ?_
    refine q_bool (p := (e14.slot = slot : Prop)) rfl (fun w' hC => r_eqi rfl rfl) eqi_iff ?_
    intro b25 hb25
    refine q_norm (rfl : _ = [_, _, _, _, _, _, _, _, _, _, _, _, _, _, _, _, _, _, _, _, _, _, _, _, _, _, _, _, _, _, _, _, _, _, _, _, _, _, _, _, _, _, _, _, _, _, _, _]) ?_
    refine q_val (v := (.bool b25)) rfl (fun w' hC => r_move rfl) (rfl : _ = [_, _, _, _, _, _, _, _, _, _, _, _, _, _, _, _, _, _, _, _, _, _, _, _, _, _, _, _, _, _, _, _, _, _, _, _, _, _, _, _, _, _, _, _, _, _, _, _]) ?_
    cases b25 with
    | true =>
      replace hb25 := bt hb25
      refine q_val (v := (.int .i64 bi)) (wan_t (dj := 21) rfl rfl) (fun w' hC => r_move rfl) (rfl : _ = [_, _, _, _, _, _, _, _, _, _, _, _, _, _, _, _, _, _, _, _, _, _, _, _, _, _, _, _, _, _, _, _, _, _, _, _, _, _, _, _, _, _, _, _, _, _, _, _]) ?_
      refine q_bool (p := (bi < 0 : Prop)) (wan_t (dj := 21) rfl rfl) (fun w' hC => r_lss rfl rfl) decide_eq_true_iff ?_
      intro b26 hb26
      refine q_norm (rfl : _ = [_, _, _, _, _, _, _, _, _, _, _, _, _, _, _, _, _, _, _, _, _, _, _, _, _, _, _, _, _, _, _, _, _, _, _, _, _, _, _, _, _, _, _, _, _, _, _, _]) ?_
      refine q_val (v := (.bool b26)) (wan_t (dj := 21) rfl rfl) (fun w' hC => r_move rfl) (rfl : _ = [_, _, _, _, _, _, _, _, _, _, _, _, _, _, _, _, _, _, _, _, _, _, _, _, _, _, _, _, _, _, _, _, _, _, _, _, _, _, _, _, _, _, _, _, _, _, _, _]) ?_
      cases b26 with
      | true =>
        replace hb26 := bt hb26
        refine q_skip (wan_f (dj := 24) rfl rfl rfl) (rfl : _ = [_, _, _, _, _, _, _, _, _, _, _, _, _, _, _, _, _, _, _, _, _, _, _, _, _, _, _, _, _, _, _, _, _, _, _, _, _, _, _, _, _, _, _, _, _, _, _, _]) ?_
        refine q_skip (wan_f (dj := 24) rfl rfl rfl) (rfl : _ = [_, _, _, _, _, _, _, _, _, _, _, _, _, _, _, _, _, _, _, _, _, _, _, _, _, _, _, _, _, _, _, _, _, _, _, _, _, _, _, _, _, _, _, _, _, _, _, _]) ?_
        refine q_skip (wan_f (dj := 24) rfl rfl rfl) (rfl : _ = [_, _, _, _, _, _, _, _, _, _, _, _, _, _, _, _, _, _, _, _, _, _, _, _, _, _, _, _, _, _, _, _, _, _, _, _, _, _, _, _, _, _, _, _, _, _, _, _]) ?_
        refine q_skip (wan_f (dj := 24) rfl rfl rfl) (rfl : _ = [_, _, _, _, _, _, _, _, _, _, _, _, _, _, _, _, _, _, _, _, _, _, _, _, _, _, _, _, _, _, _, _, _, _, _, _, _, _, _, _, _, _, _, _, _, _, _, _]) ?_
        refine q_skip (wan_f (dj := 24) rfl rfl rfl) (rfl : _ = [_, _, _, _, _, _, _, _, _, _, _, _, _, _, _, _, _, _, _, _, _, _, _, _, _, _, _, _, _, _, _, _, _, _, _, _, _, _, _, _, _, _, _, _, _, _, _, _]) ?_
        refine q_skip (wan_f (dj := 24) rfl rfl rfl) (rfl : _ = [_, _, _, _, _, _, _, _, _, _, _, _, _, _, _, _, _, _, _, _, _, _, _, _, _, _, _, _, _, _, _, _, _, _, _, _, _, _, _, _, _, _, _, _, _, _, _, _]) ?_
        refine q_skip (wan_f (dj := 24) rfl rfl rfl) (rfl : _ = [_, _, _, _, _, _, _, _, _, _, _, _, _, _, _, _, _, _, _, _, _, _, _, _, _, _, _, _, _, _, _, _, _, _, _, _, _, _, _, _, _, _, _, _, _, _, _, _]) ?_
        refine q_skip (wan_f (dj := 24) rfl rfl rfl) (rfl : _ = [_, _, _, _, _, _, _, _, _, _, _, _, _, _, _, _, _, _, _, _, _, _, _, _, _, _, _, _, _, _, _, _, _, _, _, _, _, _, _, _, _, _, _, _, _, _, _, _]) ?_
        refine q_skip (wan_f (dj := 24) rfl rfl rfl) (rfl : _ = [_, _, _, _, _, _, _, _, _, _, _, _, _, _, _, _, _, _, _, _, _, _, _, _, _, _, _, _, _, _, _, _, _, _, _, _, _, _, _, _, _, _, _, _, _, _, _, _]) ?_
        refine q_skip (wan_f (dj := 24) rfl rfl rfl) (rfl : _ = [_, _, _, _, _, _, _, _, _, _, _, _, _, _, _, _, _, _, _, _, _, _, _, _, _, _, _, _, _, _, _, _, _, _, _, _, _, _, _, _, _, _, _, _, _, _, _, _]) ?_
        refine q_skip (wan_f (dj := 24) rfl rfl rfl) (rfl : _ = [_, _, _, _, _, _, _, _, _, _, _, _, _, _, _, _, _, _, _, _, _, _, _, _, _, _, _, _, _, _, _, _, _, _, _, _, _, _, _, _, _, _, _, _, _, _, _, _]) ?_
        refine q_skip (wan_f (dj := 24) rfl rfl rfl) (rfl : _ = [_, _, _, _, _, _, _, _, _, _, _, _, _, _, _, _, _, _, _, _, _, _, _, _, _, _, _, _, _, _, _, _, _, _, _, _, _, _, _, _, _, _, _, _, _, _, _, _]) ?_
        refine q_val (v := (.bool true)) (wan_t (dj := 21) rfl rfl) (fun w' hC => r_pick rfl rfl) (rfl : _ = [_, _, _, _, _, _, _, _, _, _, _, _, _, _, _, _, _, _, _, _, _, _, _, _, _, _, _, _, _, _, _, _, _, _, _, _, _, _, _, _, _, _, _, _, _, _, _, _]) ?_
        refine q_val (v := (.bool true)) rfl (fun w' hC => r_pick rfl rfl) (rfl : _ = [_, _, _, _, _, _, _, _, _, _, _, _, _, _, _, _, _, _, _, _, _, _, _, _, _, _, _, _, _, _, _, _, _, _, _, _, _, _, _, _, _, _, _, _, _, _, _, _]) ?_
        refine q_nil rfl ?_
        intro w27 hq28
        have hc29 := Chg.of_bel hq28
        have hs30 := hc29.size
        replace hb10 := hb10.chg hc29 (by omega)
        replace hB4 := hB4.chg hc29 (by omega)
        replace hd24 := hd24.chg hc29 (by omega)
        refine x_seq ?_
        refine c_cond rfl (fun _ => ?_) (fun hh => by cases hh)
        refine c_region ?_
        refine s_val (v := (.int .i64 (i : Int))) rfl (r_move rfl) (rfl : _ = [_, _, _, _, _, _, _, _, _, _, _, _, _, _, _, _, _, _, _, _, _, _, _, _, _, _, _, _, _, _, _, _, _, _, _, _, _, _, _, _, _, _, _, _, _, _, _, _]) ?_
        refine s_val (v := (.int .i64 (i : Int))) rfl (r_assign rfl) (rfl : _ = [_, _, _, _, _, _, _, _, _, _, _, _, _, _, _, _, _, _, _, _, _, _, _, _, _, _, _, _, _, _, _, _, _, _, _, _, _, _, _, _, _, _, _, _, _, _, _, _]) ?_
        refine s_nil rfl ?_
        refine x_block ?_
        refine x_seq ?_
        refine c_region ?_
        refine s_val (v := (.int .i64 (i : Int))) rfl (r_move rfl) (rfl : _ = [_, _, _, _, _, _, _, _, _, _, _, _, _, _, _, _, _, _, _, _, _, _, _, _, _, _, _, _, _, _, _, _, _, _, _, _, _, _, _, _, _, _, _, _, _, _, _, _]) ?_
        refine s_val (v := (.int .i64 ((i : Int) + 1))) rfl (r_add (c := (i : Int) + 1) rfl rfl (i64_in (by omega) (by omega))) (rfl : _ = [_, _, _, _, _, _, _, _, _, _, _, _, _, _, _, _, _, _, _, _, _, _, _, _, _, _, _, _, _, _, _, _, _, _, _, _, _, _, _, _, _, _, _, _, _, _, _, _]) ?_
        refine s_val (v := (.int .i64 ((i : Int) + 1))) rfl (r_assign rfl) (rfl : _ = [_, _, _, _, _, _, _, _, _, _, _, _, _, _, _, _, _, _, _, _, _, _, _, _, _, _, _, _, _, _, _, _, _, _, _, _, _, _, _, _, _, _, _, _, _, _, _, _]) ?_
        refine s_nil rfl ?_
        refine x_then ?_
        have hneg2 : bi < 0 → pb = vot0 ∧ pf = false := hneg
        refine ⟨_, _, ?_, rfl, (i + 1), (i : Int), e14, true, (fun n_ => ([jk9 0, jk9 1, .int .i64 (i : Int), v, .int .i64 (l.length : Int), .bool true, .int .i64 (i : Int), .int .i64 ((i : Int) + 1), v, .int .i64 (i : Int), .pointer (some ⟨a15, o16, none⟩), .pointer (some ⟨a15, o16 + 0, none⟩), .int .i64 e14.slot, .int .i64 slot, .bool true, .bool true, .int .i64 bi, .bool true, .bool true, undef, undef, undef, undef, undef, undef, undef, undef, undef, undef, undef, undef, .bool true, .bool true, .int .i64 (i : Int)] : List Value).getD n_ undef), rfl, rfl, (by omega), (by omega), (by omega), (by rw [pickL_snoc _ he18, hp]; exact pick_yes (by assumption) (by first | exact .inr (by assumption) | exact .inl (hneg2 (by omega)).2)), (fun hh => by omega), (fun _ => ⟨by rw [Int.toNat_natCast]; exact he18, rfl⟩), hb10, hB4⟩
        omega
      | false =>
        replace hb26 := bf hb26
        refine q_val (v := v) (wan_t (dj := 24) rfl rfl) (fun w' hC => r_move rfl) (rfl : _ = [_, _, _, _, _, _, _, _, _, _, _, _, _, _, _, _, _, _, _, _, _, _, _, _, _, _, _, _, _, _, _, _, _, _, _, _, _, _, _, _, _, _, _, _, _, _, _, _]) ?_
        refine q_val (v := (.int .i64 (i : Int))) (wan_t (dj := 24) rfl rfl) (fun w' hC => r_move rfl) (rfl : _ = [_, _, _, _, _, _, _, _, _, _, _, _, _, _, _, _, _, _, _, _, _, _, _, _, _, _, _, _, _, _, _, _, _, _, _, _, _, _, _, _, _, _, _, _, _, _, _, _]) ?_
        obtain ⟨e31, a32, o33, c34, he35, hc36, hr37, hk38, hi39⟩ := (hS.at_ hb10).idx (j := (i : Int)) (by omega) (by omega)
        rw [Int.toNat_natCast] at he35
        rw [he18] at he35
        injection he35 with he35
        subst he35
        obtain ⟨d40, rfl, hd41⟩ := kVot_cells.1 hc36
        refine q_val (wan_t (dj := 24) rfl rfl) (fun w' hC => hi39 _ _ _ _ _ _ _ (by kernel_rfl) rfl rfl) (rfl : _ = [_, _, _, _, _, _, _, _, _, _, _, _, _, _, _, _, _, _, _, _, _, _, _, _, _, _, _, _, _, _, _, _, _, _, _, _, _, _, _, _, _, _, _, _, _, _, _, _]) ?_
        refine q_val (v := (.pointer (some ⟨a32, o33 + 1, none⟩))) (wan_t (dj := 24) rfl rfl) (fun w' hC => r_field (k := 1) (o := o33) (by kernel_rfl) rfl) (rfl : _ = [_, _, _, _, _, _, _, _, _, _, _, _, _, _, _, _, _, _, _, _, _, _, _, _, _, _, _, _, _, _, _, _, _, _, _, _, _, _, _, _, _, _, _, _, _, _, _, _]) ?_
        refine q_val (v := (.agg #[.int .i64 e14.bal.r, .int .i64 e14.bal.n])) (wan_t (dj := 24) rfl rfl) (fun w' hC => r_load rfl (Ld.row (cs := [.int .i64 e14.bal.r, .int .i64 e14.bal.n]) Try.underlying73 rfl (by kernel_rfl) (range_sub (range_below hr37 hC) 1 rfl))) (rfl : _ = [_, _, _, _, _, _, _, _, _, _, _, _, _, _, _, _, _, _, _, _, _, _, _, _, _, _, _, _, _, _, _, _, _, _, _, _, _, _, _, _, _, _, _, _, _, _, _, _]) ?_
        refine q_val (v := v) (wan_t (dj := 24) rfl rfl) (fun w' hC => r_move rfl) (rfl : _ = [_, _, _, _, _, _, _, _, _, _, _, _, _, _, _, _, _, _, _, _, _, _, _, _, _, _, _, _, _, _, _, _, _, _, _, _, _, _, _, _, _, _, _, _, _, _, _, _]) ?_
        refine q_val (v := (.int .i64 bi)) (wan_t (dj := 24) rfl rfl) (fun w' hC => r_move rfl) (rfl : _ = [_, _, _, _, _, _, _, _, _, _, _, _, _, _, _, _, _, _, _, _, _, _, _, _, _, _, _, _, _, _, _, _, _, _, _, _, _, _, _, _, _, _, _, _, _, _, _, _]) ?_
        obtain ⟨e42, a43, o44, c45, he46, hc47, hr48, hk49, hi50⟩ := (hS.at_ hb10).idx (j := bi) (by omega) (by omega)
        obtain ⟨d51, rfl, hd52⟩ := kVot_cells.1 hc47
        refine q_val (wan_t (dj := 24) rfl rfl) (fun w' hC => hi50 _ _ _ _ _ _ _ (by kernel_rfl) rfl rfl) (rfl : _ = [_, _, _, _, _, _, _, _, _, _, _, _, _, _, _, _, _, _, _, _, _, _, _, _, _, _, _, _, _, _, _, _, _, _, _, _, _, _, _, _, _, _, _, _, _, _, _, _]) ?_
        refine q_val (v := (.pointer (some ⟨a43, o44 + 1, none⟩))) (wan_t (dj := 24) rfl rfl) (fun w' hC => r_field (k := 1) (o := o44) (by kernel_rfl) rfl) (rfl : _ = [_, _, _, _, _, _, _, _, _, _, _, _, _, _, _, _, _, _, _, _, _, _, _, _, _, _, _, _, _, _, _, _, _, _, _, _, _, _, _, _, _, _, _, _, _, _, _, _]) ?_
        refine q_val (v := (.agg #[.int .i64 e42.bal.r, .int .i64 e42.bal.n])) (wan_t (dj := 24) rfl rfl) (fun w' hC => r_load rfl (Ld.row (cs := [.int .i64 e42.bal.r, .int .i64 e42.bal.n]) Try.underlying73 rfl (by kernel_rfl) (range_sub (range_below hr48 hC) 1 rfl))) (rfl : _ = [_, _, _, _, _, _, _, _, _, _, _, _, _, _, _, _, _, _, _, _, _, _, _, _, _, _, _, _, _, _, _, _, _, _, _, _, _, _, _, _, _, _, _, _, _, _, _, _]) ?_
        refine q_call (by kernel_rfl) (wan_t (dj := 24) rfl rfl) rfl (fun w' hC => cmpr_c e14.bal e42.bal) ?_
        refine q_norm (rfl : _ = [_, _, _, _, _, _, _, _, _, _, _, _, _, _, _, _, _, _, _, _, _, _, _, _, _, _, _, _, _, _, _, _, _, _, _, _, _, _, _, _, _, _, _, _, _, _, _, _]) ?_
        refine q_bool (p := (0 < (cmpBal e14.bal e42.bal) : Prop)) (wan_t (dj := 24) rfl rfl) (fun w' hC => r_gtr rfl rfl) decide_eq_true_iff ?_
        intro b53 hb53
        refine q_norm (rfl : _ = [_, _, _, _, _, _, _, _, _, _, _, _, _, _, _, _, _, _, _, _, _, _, _, _, _, _, _, _, _, _, _, _, _, _, _, _, _, _, _, _, _, _, _, _, _, _, _, _]) ?_
        refine q_val (v := (.bool b53)) (wan_t (dj := 21) rfl rfl) (fun w' hC => r_pick rfl rfl) (rfl : _ = [_, _, _, _, _, _, _, _, _, _, _, _, _, _, _, _, _, _, _, _, _, _, _, _, _, _, _, _, _, _, _, _, _, _, _, _, _, _, _, _, _, _, _, _, _, _, _, _]) ?_
        refine q_val (v := (.bool b53)) rfl (fun w' hC => r_pick rfl rfl) (rfl : _ = [_, _, _, _, _, _, _, _, _, _, _, _, _, _, _, _, _, _, _, _, _, _, _, _, _, _, _, _, _, _, _, _, _, _, _, _, _, _, _, _, _, _, _, _, _, _, _, _]) ?_
        refine q_nil rfl ?_
        intro w54 hq55
        have hc56 := Chg.of_bel hq55
        have hs57 := hc56.size
        replace hb10 := hb10.chg hc56 (by omega)
        replace hB4 := hB4.chg hc56 (by omega)
        replace hd24 := hd24.chg hc56 (by omega)
        replace hd41 := hd41.chg hc56 (by omega)
        replace hd52 := hd52.chg hc56 (by omega)
        refine x_seq ?_
        cases b53 with
        | true =>
          replace hb53 := bt hb53
          refine c_cond rfl (fun _ => ?_) (fun hh => by cases hh)
          refine c_region ?_
          refine s_val (v := (.int .i64 (i : Int))) rfl (r_move rfl) (rfl : _ = [_, _, _, _, _, _, _, _, _, _, _, _, _, _, _, _, _, _, _, _, _, _, _, _, _, _, _, _, _, _, _, _, _, _, _, _, _, _, _, _, _, _, _, _, _, _, _, _]) ?_
          refine s_val (v := (.int .i64 (i : Int))) rfl (r_assign rfl) (rfl : _ = [_, _, _, _, _, _, _, _, _, _, _, _, _, _, _, _, _, _, _, _, _, _, _, _, _, _, _, _, _, _, _, _, _, _, _, _, _, _, _, _, _, _, _, _, _, _, _, _]) ?_
          refine s_nil rfl ?_
          refine x_block ?_
          refine x_seq ?_
          refine c_region ?_
          refine s_val (v := (.int .i64 (i : Int))) rfl (r_move rfl) (rfl : _ = [_, _, _, _, _, _, _, _, _, _, _, _, _, _, _, _, _, _, _, _, _, _, _, _, _, _, _, _, _, _, _, _, _, _, _, _, _, _, _, _, _, _, _, _, _, _, _, _]) ?_
          refine s_val (v := (.int .i64 ((i : Int) + 1))) rfl (r_add (c := (i : Int) + 1) rfl rfl (i64_in (by omega) (by omega))) (rfl : _ = [_, _, _, _, _, _, _, _, _, _, _, _, _, _, _, _, _, _, _, _, _, _, _, _, _, _, _, _, _, _, _, _, _, _, _, _, _, _, _, _, _, _, _, _, _, _, _, _]) ?_
          refine s_val (v := (.int .i64 ((i : Int) + 1))) rfl (r_assign rfl) (rfl : _ = [_, _, _, _, _, _, _, _, _, _, _, _, _, _, _, _, _, _, _, _, _, _, _, _, _, _, _, _, _, _, _, _, _, _, _, _, _, _, _, _, _, _, _, _, _, _, _, _]) ?_
          refine s_nil rfl ?_
          refine x_then ?_
          obtain ⟨hq1, hq2⟩ := hpos (by omega)
          rw [he46] at hq1
          injection hq1 with hq1
          subst hq1
          subst hq2
          refine ⟨_, _, ?_, rfl, (i + 1), (i : Int), e14, true, (fun n_ => ([jk9 0, jk9 1, .int .i64 (i : Int), v, .int .i64 (l.length : Int), .bool true, .int .i64 (i : Int), .int .i64 ((i : Int) + 1), v, .int .i64 (i : Int), .pointer (some ⟨a15, o16, none⟩), .pointer (some ⟨a15, o16 + 0, none⟩), .int .i64 e14.slot, .int .i64 slot, .bool true, .bool true, .int .i64 bi, .bool false, .bool false, v, .int .i64 (i : Int), .pointer (some ⟨a32, o33, none⟩), .pointer (some ⟨a32, o33 + 1, none⟩), .agg #[.int .i64 e14.bal.r, .int .i64 e14.bal.n], v, .int .i64 bi, .pointer (some ⟨a43, o44, none⟩), .pointer (some ⟨a43, o44 + 1, none⟩), .agg #[.int .i64 e42.bal.r, .int .i64 e42.bal.n], .int .i64 (cmpBal e14.bal e42.bal), .bool true, .bool true, .bool true, .int .i64 (i : Int)] : List Value).getD n_ undef), rfl, rfl, (by omega), (by omega), (by omega), (by rw [pickL_snoc _ he18, hp]; exact pick_yes (by assumption) (by first | exact .inr (by assumption) | exact .inl (hneg2 (by omega)).2)), (fun hh => by omega), (fun _ => ⟨by rw [Int.toNat_natCast]; exact he18, rfl⟩), hb10, hB4⟩
          omega
        | false =>
          replace hb53 := bf hb53
          refine c_cond rfl (fun hh => by cases hh) (fun _ => ?_)
          refine c_skip ?_
          refine x_block ?_
          refine x_seq ?_
          refine c_region ?_
          refine s_val (v := (.int .i64 (i : Int))) rfl (r_move rfl) (rfl : _ = [_, _, _, _, _, _, _, _, _, _, _, _, _, _, _, _, _, _, _, _, _, _, _, _, _, _, _, _, _, _, _, _, _, _, _, _, _, _, _, _, _, _, _, _, _, _, _, _]) ?_
          refine s_val (v := (.int .i64 ((i : Int) + 1))) rfl (r_add (c := (i : Int) + 1) rfl rfl (i64_in (by omega) (by omega))) (rfl : _ = [_, _, _, _, _, _, _, _, _, _, _, _, _, _, _, _, _, _, _, _, _, _, _, _, _, _, _, _, _, _, _, _, _, _, _, _, _, _, _, _, _, _, _, _, _, _, _, _]) ?_
          refine s_val (v := (.int .i64 ((i : Int) + 1))) rfl (r_assign rfl) (rfl : _ = [_, _, _, _, _, _, _, _, _, _, _, _, _, _, _, _, _, _, _, _, _, _, _, _, _, _, _, _, _, _, _, _, _, _, _, _, _, _, _, _, _, _, _, _, _, _, _, _]) ?_
          refine s_nil rfl ?_
          refine x_then ?_
          obtain ⟨hq1, hq2⟩ := hpos (by omega)
          rw [he46] at hq1
          injection hq1 with hq1
          subst hq1
          subst hq2
          refine ⟨_, _, ?_, rfl, (i + 1), bi, e42, true, (fun n_ => ([jk9 0, jk9 1, .int .i64 (i : Int), v, .int .i64 (l.length : Int), .bool true, .int .i64 (i : Int), .int .i64 ((i : Int) + 1), v, .int .i64 (i : Int), .pointer (some ⟨a15, o16, none⟩), .pointer (some ⟨a15, o16 + 0, none⟩), .int .i64 e14.slot, .int .i64 slot, .bool true, .bool true, .int .i64 bi, .bool false, .bool false, v, .int .i64 (i : Int), .pointer (some ⟨a32, o33, none⟩), .pointer (some ⟨a32, o33 + 1, none⟩), .agg #[.int .i64 e14.bal.r, .int .i64 e14.bal.n], v, .int .i64 bi, .pointer (some ⟨a43, o44, none⟩), .pointer (some ⟨a43, o44 + 1, none⟩), .agg #[.int .i64 e42.bal.r, .int .i64 e42.bal.n], .int .i64 (cmpBal e14.bal e42.bal), .bool false, .bool false, .bool false, jk9 33] : List Value).getD n_ undef), rfl, rfl, (by omega), (by omega), (by omega), (by rw [pickL_snoc _ he18, hp]; exact pick_no (by first | exact .inl (by assumption) | exact .inr ⟨rfl, by assumption⟩)), (fun hh => by omega), (fun _ => ⟨he46, rfl⟩), hb10, hB4⟩
          omega
    | false =>
      replace hb25 := bf hb25
      refine q_skip (wan_f (dj := 21) rfl rfl rfl) (rfl : _ = [_, _, _, _, _, _, _, _, _, _, _, _, _, _, _, _, _, _, _, _, _, _, _, _, _, _, _, _, _, _, _, _, _, _, _, _, _, _, _, _, _, _, _, _, _, _, _, _]) ?_
      refine q_skip (wan_f (dj := 21) rfl rfl rfl) (rfl : _ = [_, _, _, _, _, _, _, _, _, _, _, _, _, _, _, _, _, _, _, _, _, _, _, _, _, _, _, _, _, _, _, _, _, _, _, _, _, _, _, _, _, _, _, _, _, _, _, _]) ?_
      refine q_skip (wan_f (dj := 21) rfl rfl rfl) (rfl : _ = [_, _, _, _, _, _, _, _, _, _, _, _, _, _, _, _, _, _, _, _, _, _, _, _, _, _, _, _, _, _, _, _, _, _, _, _, _, _, _, _, _, _, _, _, _, _, _, _]) ?_
      refine q_skip (wan_u (dj := 24) rfl rfl) (rfl : _ = [_, _, _, _, _, _, _, _, _, _, _, _, _, _, _, _, _, _, _, _, _, _, _, _, _, _, _, _, _, _, _, _, _, _, _, _, _, _, _, _, _, _, _, _, _, _, _, _]) ?_
      refine q_skip (wan_u (dj := 24) rfl rfl) (rfl : _ = [_, _, _, _, _, _, _, _, _, _, _, _, _, _, _, _, _, _, _, _, _, _, _, _, _, _, _, _, _, _, _, _, _, _, _, _, _, _, _, _, _, _, _, _, _, _, _, _]) ?_
      refine q_skip (wan_u (dj := 24) rfl rfl) (rfl : _ = [_, _, _, _, _, _, _, _, _, _, _, _, _, _, _, _, _, _, _, _, _, _, _, _, _, _, _, _, _, _, _, _, _, _, _, _, _, _, _, _, _, _, _, _, _, _, _, _]) ?_
      refine q_skip (wan_u (dj := 24) rfl rfl) (rfl : _ = [_, _, _, _, _, _, _, _, _, _, _, _, _, _, _, _, _, _, _, _, _, _, _, _, _, _, _, _, _, _, _, _, _, _, _, _, _, _, _, _, _, _, _, _, _, _, _, _]) ?_
      refine q_skip (wan_u (dj := 24) rfl rfl) (rfl : _ = [_, _, _, _, _, _, _, _, _, _, _, _, _, _, _, _, _, _, _, _, _, _, _, _, _, _, _, _, _, _, _, _, _, _, _, _, _, _, _, _, _, _, _, _, _, _, _, _]) ?_
      refine q_skip (wan_u (dj := 24) rfl rfl) (rfl : _ = [_, _, _, _, _, _, _, _, _, _, _, _, _, _, _, _, _, _, _, _, _, _, _, _, _, _, _, _, _, _, _, _, _, _, _, _, _, _, _, _, _, _, _, _, _, _, _, _]) ?_
      refine q_skip (wan_u (dj := 24) rfl rfl) (rfl : _ = [_, _, _, _, _, _, _, _, _, _, _, _, _, _, _, _, _, _, _, _, _, _, _, _, _, _, _, _, _, _, _, _, _, _, _, _, _, _, _, _, _, _, _, _, _, _, _, _]) ?_
      refine q_skip (wan_u (dj := 24) rfl rfl) (rfl : _ = [_, _, _, _, _, _, _, _, _, _, _, _, _, _, _, _, _, _, _, _, _, _, _, _, _, _, _, _, _, _, _, _, _, _, _, _, _, _, _, _, _, _, _, _, _, _, _, _]) ?_
      refine q_skip (wan_u (dj := 24) rfl rfl) (rfl : _ = [_, _, _, _, _, _, _, _, _, _, _, _, _, _, _, _, _, _, _, _, _, _, _, _, _, _, _, _, _, _, _, _, _, _, _, _, _, _, _, _, _, _, _, _, _, _, _, _]) ?_
      refine q_skip (wan_u (dj := 24) rfl rfl) (rfl : _ = [_, _, _, _, _, _, _, _, _, _, _, _, _, _, _, _, _, _, _, _, _, _, _, _, _, _, _, _, _, _, _, _, _, _, _, _, _, _, _, _, _, _, _, _, _, _, _, _]) ?_
      refine q_skip (wan_u (dj := 24) rfl rfl) (rfl : _ = [_, _, _, _, _, _, _, _, _, _, _, _, _, _, _, _, _, _, _, _, _, _, _, _, _, _, _, _, _, _, _, _, _, _, _, _, _, _, _, _, _, _, _, _, _, _, _, _]) ?_
      refine q_skip (wan_u (dj := 24) rfl rfl) (rfl : _ = [_, _, _, _, _, _, _, _, _, _, _, _, _, _, _, _, _, _, _, _, _, _, _, _, _, _, _, _, _, _, _, _, _, _, _, _, _, _, _, _, _, _, _, _, _, _, _, _]) ?_
      refine q_skip (wan_f (dj := 21) rfl rfl rfl) (rfl : _ = [_, _, _, _, _, _, _, _, _, _, _, _, _, _, _, _, _, _, _, _, _, _, _, _, _, _, _, _, _, _, _, _, _, _, _, _, _, _, _, _, _, _, _, _, _, _, _, _]) ?_
      refine q_val (v := (.bool false)) rfl (fun w' hC => r_pick rfl rfl) (rfl : _ = [_, _, _, _, _, _, _, _, _, _, _, _, _, _, _, _, _, _, _, _, _, _, _, _, _, _, _, _, _, _, _, _, _, _, _, _, _, _, _, _, _, _, _, _, _, _, _, _]) ?_
      refine q_nil rfl ?_
      intro w58 hq59
      have hc60 := Chg.of_bel hq59
      have hs61 := hc60.size
      replace hb10 := hb10.chg hc60 (by omega)
      replace hB4 := hB4.chg hc60 (by omega)
      replace hd24 := hd24.chg hc60 (by omega)
      refine x_seq ?_
      refine c_cond rfl (fun hh => by cases hh) (fun _ => ?_)
      refine c_skip ?_
      refine x_block ?_
      refine x_seq ?_
      refine c_region ?_
      refine s_val (v := (.int .i64 (i : Int))) rfl (r_move rfl) (rfl : _ = [_, _, _, _, _, _, _, _, _, _, _, _, _, _, _, _, _, _, _, _, _, _, _, _, _, _, _, _, _, _, _, _, _, _, _, _, _, _, _, _, _, _, _, _, _, _, _, _]) ?_
      refine s_val (v := (.int .i64 ((i : Int) + 1))) rfl (r_add (c := (i : Int) + 1) rfl rfl (i64_in (by omega) (by omega))) (rfl : _ = [_, _, _, _, _, _, _, _, _, _, _, _, _, _, _, _, _, _, _, _, _, _, _, _, _, _, _, _, _, _, _, _, _, _, _, _, _, _, _, _, _, _, _, _, _, _, _, _]) ?_
      refine s_val (v := (.int .i64 ((i : Int) + 1))) rfl (r_assign rfl) (rfl : _ = [_, _, _, _, _, _, _, _, _, _, _, _, _, _, _, _, _, _, _, _, _, _, _, _, _, _, _, _, _, _, _, _, _, _, _, _, _, _, _, _, _, _, _, _, _, _, _, _]) ?_
      refine s_nil rfl ?_
      refine x_then ?_
      have hneg2 : bi < 0 → pb = vot0 ∧ pf = false := hneg
      refine ⟨_, _, ?_, rfl, (i + 1), bi, pb, pf, (fun n_ => ([jk9 0, jk9 1, .int .i64 (i : Int), v, .int .i64 (l.length : Int), .bool true, .int .i64 (i : Int), .int .i64 ((i : Int) + 1), v, .int .i64 (i : Int), .pointer (some ⟨a15, o16, none⟩), .pointer (some ⟨a15, o16 + 0, none⟩), .int .i64 e14.slot, .int .i64 slot, .bool false, .bool false, undef, undef, undef, undef, undef, undef, undef, undef, undef, undef, undef, undef, undef, undef, undef, undef, .bool false, jk9 33] : List Value).getD n_ undef), rfl, rfl, (by omega), (by omega), (by omega), (by rw [pickL_snoc _ he18, hp]; exact pick_no (by first | exact .inl (by assumption) | exact .inr ⟨rfl, by assumption⟩)), hneg, hpos, hb10, hB4⟩
      omega
  | false =>
    replace hb13 := bf hb13
    refine c_cond rfl (fun hh => by cases hh) (fun _ => ?_)
    refine c_exit ?_
    refine x_then_exit ?_
    refine x_then_exit ?_
    refine x_block_same ?_
    refine x_seq ?_
    refine c_seq ?_
    refine c_seq ?_
    refine c_region ?_
    refine s_val (v := (.int .i64 bi)) rfl (r_move rfl) (rfl : _ = [_, _, _, _, _, _, _, _, _, _, _, _, _, _, _, _, _, _, _, _, _, _, _, _, _, _, _, _, _, _, _, _, _, _, _, _, _, _, _, _, _, _, _, _, _, _, _, _]) ?_
    refine s_bool (p := (bi < 0 : Prop)) rfl (r_lss rfl rfl) decide_eq_true_iff ?_
    intro b62 hb62
    refine norm (rfl : _ = [_, _, _, _, _, _, _, _, _, _, _, _, _, _, _, _, _, _, _, _, _, _, _, _, _, _, _, _, _, _, _, _, _, _, _, _, _, _, _, _, _, _, _, _, _, _, _, _]) ?_
    refine s_nil rfl ?_
    refine x_seq ?_
    cases b62 with
    | true =>
      replace hb62 := bt hb62
      refine c_cond rfl (fun _ => ?_) (fun hh => by cases hh)
      refine c_seq ?_
      refine c_region ?_
      refine s_val rfl (r_build (v := (.agg #[.bool true, .string ⟨#[]⟩, .string ⟨#[]⟩, .int .i64 0, .slice none 0 0])) rfl (by kernel_rfl)) (rfl : _ = [_, _, _, _, _, _, _, _, _, _, _, _, _, _, _, _, _, _, _, _, _, _, _, _, _, _, _, _, _, _, _, _, _, _, _, _, _, _, _, _, _, _, _, _, _, _, _, _]) ?_
      refine s_store (b := a1) (o := 0) (vs := [.bool true, .string ⟨#[]⟩, .string ⟨#[]⟩, .int .i64 0, .slice none 0 0]) (cs := [.bool false, .string ⟨#[]⟩, .string ⟨#[]⟩, .int .i64 0, .slice none 0 0]) (cs' := [.bool true, .string ⟨#[]⟩, .string ⟨#[]⟩, .int .i64 0, .slice none 0 0]) 27 _ _ rfl (v := (.agg #[.bool true, .string ⟨#[]⟩, .string ⟨#[]⟩, .int .i64 0, .slice none 0 0])) rfl rfl rfl hB4 (by kernel_rfl) ⟨rfl, rfl, rfl, rfl, rfl, trivial⟩ (by simp) rfl ?_
      intro w63 hB64 hc65 hz66
      have hs67 := hc65.size
      replace hb10 := hb10.chg hc65 (by omega)
      refine s_val (v := (.bool false)) rfl (r_assign rfl) (rfl : _ = [_, _, _, _, _, _, _, _, _, _, _, _, _, _, _, _, _, _, _, _, _, _, _, _, _, _, _, _, _, _, _, _, _, _, _, _, _, _, _, _, _, _, _, _, _, _, _, _]) ?_
      refine s_nil rfl ?_
      refine x_seq ?_
      refine c_ret ?_
      refine x_then_ret ?_
      refine post_cell2 rfl rfl (Ld.row (cs := [.bool true, .string ⟨#[]⟩, .string ⟨#[]⟩, .int .i64 0, .slice none 0 0]) Try.underlying27 rfl (by kernel_rfl) (hB64.range 0 rfl)) rfl ?_
      have hi2 : i = l.length := by omega
      subst hi2
      rw [List.take_length] at hp
      rw [hp] at hbf
      injection hbf with e1 e2
      obtain ⟨h1, h2⟩ := hneg (by omega)
      rw [h1] at e1
      rw [h2] at e2
      subst e1
      subst e2
      exact ⟨⟨_, rfl, Sl.nil _ _ _⟩, hb10⟩
    | false =>
      replace hb62 := bf hb62
      refine c_cond rfl (fun hh => by cases hh) (fun _ => ?_)
      refine c_skip ?_
      refine x_seq ?_
      refine c_seq ?_
      refine c_region ?_
      refine s_val (v := v) rfl (r_move rfl) (rfl : _ = [_, _, _, _, _, _, _, _, _, _, _, _, _, _, _, _, _, _, _, _, _, _, _, _, _, _, _, _, _, _, _, _, _, _, _, _, _, _, _, _, _, _, _, _, _, _, _, _]) ?_
      refine s_val (v := (.int .i64 bi)) rfl (r_move rfl) (rfl : _ = [_, _, _, _, _, _, _, _, _, _, _, _, _, _, _, _, _, _, _, _, _, _, _, _, _, _, _, _, _, _, _, _, _, _, _, _, _, _, _, _, _, _, _, _, _, _, _, _]) ?_
      obtain ⟨e68, a69, o70, c71, he72, hc73, hr74, hk75, hi76⟩ := (hS.at_ hb10).idx (j := bi) (by omega) (by omega)
      obtain ⟨d77, rfl, hd78⟩ := kVot_cells.1 hc73
      refine s_val rfl (hi76 _ _ _ _ _ _ _ (by kernel_rfl) rfl rfl) (rfl : _ = [_, _, _, _, _, _, _, _, _, _, _, _, _, _, _, _, _, _, _, _, _, _, _, _, _, _, _, _, _, _, _, _, _, _, _, _, _, _, _, _, _, _, _, _, _, _, _, _]) ?_
      refine s_val (v := (.pointer (some ⟨a69, o70 + 3, none⟩))) rfl (r_field (k := 3) (o := o70) (by kernel_rfl) rfl) (rfl : _ = [_, _, _, _, _, _, _, _, _, _, _, _, _, _, _, _, _, _, _, _, _, _, _, _, _, _, _, _, _, _, _, _, _, _, _, _, _, _, _, _, _, _, _, _, _, _, _, _]) ?_
      refine s_val (v := (.agg #[.bool e68.ent.noop, .string e68.ent.sl.token, .string e68.ent.sl.cart, .int .i64 e68.ent.sl.epoch, d77])) rfl (r_load rfl (Ld.row (cs := [.bool e68.ent.noop, .string e68.ent.sl.token, .string e68.ent.sl.cart, .int .i64 e68.ent.sl.epoch, d77]) Try.underlying27 rfl (by kernel_rfl) (range_sub hr74 3 rfl))) (rfl : _ = [_, _, _, _, _, _, _, _, _, _, _, _, _, _, _, _, _, _, _, _, _, _, _, _, _, _, _, _, _, _, _, _, _, _, _, _, _, _, _, _, _, _, _, _, _, _, _, _]) ?_
      refine s_store (b := a1) (o := 0) (vs := [.bool e68.ent.noop, .string e68.ent.sl.token, .string e68.ent.sl.cart, .int .i64 e68.ent.sl.epoch, d77]) (cs := [.bool false, .string ⟨#[]⟩, .string ⟨#[]⟩, .int .i64 0, .slice none 0 0]) (cs' := [.bool e68.ent.noop, .string e68.ent.sl.token, .string e68.ent.sl.cart, .int .i64 e68.ent.sl.epoch, d77]) 27 _ _ rfl (v := (.agg #[.bool e68.ent.noop, .string e68.ent.sl.token, .string e68.ent.sl.cart, .int .i64 e68.ent.sl.epoch, d77])) rfl rfl rfl hB4 (by kernel_rfl) ⟨rfl, rfl, rfl, rfl, hd78.one, trivial⟩ (by simp) rfl ?_
      intro w79 hB80 hc81 hz82
      have hs83 := hc81.size
      replace hb10 := hb10.chg hc81 (by omega)
      replace hd78 := hd78.chg hc81 (by omega)
      refine s_val (v := (.bool true)) rfl (r_assign rfl) (rfl : _ = [_, _, _, _, _, _, _, _, _, _, _, _, _, _, _, _, _, _, _, _, _, _, _, _, _, _, _, _, _, _, _, _, _, _, _, _, _, _, _, _, _, _, _, _, _, _, _, _]) ?_
      refine s_nil rfl ?_
      refine x_seq ?_
      refine c_ret ?_
      refine post_cell2 rfl rfl (Ld.row (cs := [.bool e68.ent.noop, .string e68.ent.sl.token, .string e68.ent.sl.cart, .int .i64 e68.ent.sl.epoch, d77]) Try.underlying27 rfl (by kernel_rfl) (hB80.range 0 rfl)) rfl ?_
      have hi2 : i = l.length := by omega
      subst hi2
      rw [List.take_length] at hp
      rw [hp] at hbf
      injection hbf with e1 e2
      obtain ⟨h1, h2⟩ := hpos (by omega)
      rw [he72] at h1
      injection h1 with h1
      subst h1
      subst h2
      subst e1
      subst e2
      exact ⟨⟨_, rfl, hd78.rg (by decide) (fun b hl hh => by omega)⟩, hb10⟩

end Go.Proofs.Ytailhdcackkegaa.Wd

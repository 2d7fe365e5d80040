/- law 11: right, of, SameEvent, Total, Same. -/
import Derived.Test.YtailhdcackkegaaC5
import Derived.Test.YtailhdcackkegaaS1
import Derived.Test.YtailhdcackkegaaQ1
import Derived.Test.YtailhdcackkegaaProg
namespace Go.Proofs.Ytailhdcackkegaa.Wd
open Go.RowKit
set_option linter.unusedVariables false
set_option linter.unusedSimpArgs false

/-- How many of an article lines have. -/
def qtyL : List Ln → ByteArray → Int
  | [], _ => 0
  | x :: l, s => if x.sku = s then x.qty else qtyL l s
/-- Each dot has one event, with a quantity that may be: up to place i. -/
def rightAt (l : List Ev) (i : Nat) : Prop := ∀ e, l[i]? = some e → (0 ≤ e.qty ∧ e.qty ≤ 1000) ∧ ∀ k x, k < i → l[k]? = some x → x.dot = e.dot → x = e
def rightL (l : List Ev) : Prop := ∀ i, i < l.length → rightAt l i
def totL (l : List Ln) : Int := l.foldl (fun s x => s + x.qty) 0
theorem totL_snoc {l : List Ln} {i : Nat} {e : Ln} (h : l[i]? = some e) : totL (l.take (i + 1)) = totL (l.take i) + e.qty := by
  rw [take_snoc h, totL, List.foldl_append]; rfl

theorem sameEv_c {ok ok2 : Nat → Prop} {w : World} {d e : Value} {a b : Ev} (hS : Sl kInt ok w d a.deps) (hT : Sl kInt ok2 w e b.deps) :
    CallsV Try.prog 54 #[(.agg #[.int .i64 a.dot.o, .int .i64 a.dot.s, d, .string a.cart, .int .i64 a.epoch, .string a.sku, .int .i64 a.qty, .bool a.clears]), (.agg #[.int .i64 b.dot.o, .int .i64 b.dot.s, e, .string b.cart, .int .i64 b.epoch, .string b.sku, .int .i64 b.qty, .bool b.clears])] w (fun r w' => r = .bool (toB (a = b)) ∧ Bel w w') := by
  have hb := Bel.refl w
  replace hS : Sl kInt (Rg w.heap.size 0 0) w d a.deps := hS.weak (by decide) (fun b _ hl => .inl hl)
  have hSlim := lim_le hS.lim
  replace hT : Sl kInt (Rg w.heap.size 0 0) w e b.deps := hT.weak (by decide) (fun b _ hl => .inl hl)
  have hTlim := lim_le hT.lim
  refine callsV_of Try.func54 (m := 50) Try.ntmps54 rfl rfl (l := [.agg #[.int .i64 a.dot.o, .int .i64 a.dot.s, d, .string a.cart, .int .i64 a.epoch, .string a.sku, .int .i64 a.qty, .bool a.clears], .agg #[.int .i64 b.dot.o, .int .i64 b.dot.s, e, .string b.cart, .int .i64 b.epoch, .string b.sku, .int .i64 b.qty, .bool b.clears], undef, undef, undef, undef, undef, undef, undef, undef, undef, undef, undef, undef, undef, undef, undef, undef, undef, undef, undef, undef, undef, undef, undef, undef, undef, undef, undef, undef, undef, undef, undef, undef, undef, undef, undef, undef, undef, undef, undef, undef, undef, undef, undef, undef, undef, undef, undef, undef, undef, undef]) rfl ?_
  refine c_seq ?_
  refine c_region ?_
  refine s_box (v := (.agg #[.int .i64 a.dot.o, .int .i64 a.dot.s, d, .string a.cart, .int .i64 a.epoch, .string a.sku, .int .i64 a.qty, .bool a.clears])) 39 _ rfl rfl ?_
  intro a1 w2 he3 hB4 hc5 hz6
  refine norm (rfl : _ = [_, _, _, _, _, _, _, _, _, _, _, _, _, _, _, _, _, _, _, _, _, _, _, _, _, _, _, _, _, _, _, _, _, _, _, _, _, _, _, _, _, _, _, _, _, _, _, _, _, _, _, _]) ?_
  have hs7 := hc5.size
  replace hb := hb.chg hc5 (by omega)
  refine s_box (v := (.agg #[.int .i64 b.dot.o, .int .i64 b.dot.s, e, .string b.cart, .int .i64 b.epoch, .string b.sku, .int .i64 b.qty, .bool b.clears])) 39 _ rfl rfl ?_
  intro a8 w9 he10 hB11 hc12 hz13
  refine norm (rfl : _ = [_, _, _, _, _, _, _, _, _, _, _, _, _, _, _, _, _, _, _, _, _, _, _, _, _, _, _, _, _, _, _, _, _, _, _, _, _, _, _, _, _, _, _, _, _, _, _, _, _, _, _, _]) ?_
  have hs14 := hc12.size
  replace hb := hb.chg hc12 (by omega)
  replace hB4 := hB4.chg hc12 (by omega)
  refine s_val (v := (.bool false)) rfl (r_assign rfl) (rfl : _ = [_, _, _, _, _, _, _, _, _, _, _, _, _, _, _, _, _, _, _, _, _, _, _, _, _, _, _, _, _, _, _, _, _, _, _, _, _, _, _, _, _, _, _, _, _, _, _, _, _, _, _, _]) ?_
  refine s_nil rfl ?_
  refine x_seq ?_
  refine c_seq ?_
  refine c_region ?_
  refine s_val (v := (.pointer (some ⟨a1, 0, none⟩))) rfl (r_field (k := 0) (o := 0) (by kernel_rfl) rfl) (rfl : _ = [_, _, _, _, _, _, _, _, _, _, _, _, _, _, _, _, _, _, _, _, _, _, _, _, _, _, _, _, _, _, _, _, _, _, _, _, _, _, _, _, _, _, _, _, _, _, _, _, _, _, _, _]) ?_
  refine s_val (v := (.agg #[.int .i64 a.dot.o, .int .i64 a.dot.s])) rfl (r_load rfl (Ld.row (cs := [.int .i64 a.dot.o, .int .i64 a.dot.s]) Try.underlying37 rfl (by kernel_rfl) (hB4.range 0 rfl))) (rfl : _ = [_, _, _, _, _, _, _, _, _, _, _, _, _, _, _, _, _, _, _, _, _, _, _, _, _, _, _, _, _, _, _, _, _, _, _, _, _, _, _, _, _, _, _, _, _, _, _, _, _, _, _, _]) ?_
  refine s_val (v := (.pointer (some ⟨a8, 0, none⟩))) rfl (r_field (k := 0) (o := 0) (by kernel_rfl) rfl) (rfl : _ = [_, _, _, _, _, _, _, _, _, _, _, _, _, _, _, _, _, _, _, _, _, _, _, _, _, _, _, _, _, _, _, _, _, _, _, _, _, _, _, _, _, _, _, _, _, _, _, _, _, _, _, _]) ?_
  refine s_val (v := (.agg #[.int .i64 b.dot.o, .int .i64 b.dot.s])) rfl (r_load rfl (Ld.row (cs := [.int .i64 b.dot.o, .int .i64 b.dot.s]) Try.underlying37 rfl (by kernel_rfl) (hB11.range 0 rfl))) (rfl : _ = [_, _, _, _, _, _, _, _, _, _, _, _, _, _, _, _, _, _, _, _, _, _, _, _, _, _, _, _, _, _, _, _, _, _, _, _, _, _, _, _, _, _, _, _, _, _, _, _, _, _, _, _]) ?_
  refine s_bool (p := (a.dot = b.dot : Prop)) rfl (r_eq_agg (by kernel_rfl) rfl rfl (eqDot_run _ _ _ _ _)) eqDot_iff ?_
  intro b15 hb15
  refine norm (rfl : _ = [_, _, _, _, _, _, _, _, _, _, _, _, _, _, _, _, _, _, _, _, _, _, _, _, _, _, _, _, _, _, _, _, _, _, _, _, _, _, _, _, _, _, _, _, _, _, _, _, _, _, _, _]) ?_
  refine s_val (v := (.bool b15)) rfl (r_move rfl) (rfl : _ = [_, _, _, _, _, _, _, _, _, _, _, _, _, _, _, _, _, _, _, _, _, _, _, _, _, _, _, _, _, _, _, _, _, _, _, _, _, _, _, _, _, _, _, _, _, _, _, _, _, _, _, _]) ?_
  cases b15 with
  | true =>
    replace hb15 := bt hb15
    refine s_val (v := (.pointer (some ⟨a1, 2, none⟩))) (wan_t (dj := 10) rfl rfl) (r_field (k := 2) (o := 0) (by kernel_rfl) rfl) (rfl : _ = [_, _, _, _, _, _, _, _, _, _, _, _, _, _, _, _, _, _, _, _, _, _, _, _, _, _, _, _, _, _, _, _, _, _, _, _, _, _, _, _, _, _, _, _, _, _, _, _, _, _, _, _]) ?_
    refine s_val (v := d) (wan_t (dj := 10) rfl rfl) (r_load rfl (Ld.one Try.underlying23 rfl (hB4.cell (i := 2) rfl))) (rfl : _ = [_, _, _, _, _, _, _, _, _, _, _, _, _, _, _, _, _, _, _, _, _, _, _, _, _, _, _, _, _, _, _, _, _, _, _, _, _, _, _, _, _, _, _, _, _, _, _, _, _, _, _, _]) ?_
    refine s_val (v := (.pointer (some ⟨a8, 2, none⟩))) (wan_t (dj := 10) rfl rfl) (r_field (k := 2) (o := 0) (by kernel_rfl) rfl) (rfl : _ = [_, _, _, _, _, _, _, _, _, _, _, _, _, _, _, _, _, _, _, _, _, _, _, _, _, _, _, _, _, _, _, _, _, _, _, _, _, _, _, _, _, _, _, _, _, _, _, _, _, _, _, _]) ?_
    refine s_val (v := e) (wan_t (dj := 10) rfl rfl) (r_load rfl (Ld.one Try.underlying23 rfl (hB11.cell (i := 2) rfl))) (rfl : _ = [_, _, _, _, _, _, _, _, _, _, _, _, _, _, _, _, _, _, _, _, _, _, _, _, _, _, _, _, _, _, _, _, _, _, _, _, _, _, _, _, _, _, _, _, _, _, _, _, _, _, _, _]) ?_
    refine s_callb 83 _ _ (by kernel_rfl) (wan_t (dj := 10) rfl rfl) rfl (sameVec_c (hS.at_ hb) (hT.at_ hb)) ?_
    intro b16 w17 hb16 hb18
    refine norm (rfl : _ = [_, _, _, _, _, _, _, _, _, _, _, _, _, _, _, _, _, _, _, _, _, _, _, _, _, _, _, _, _, _, _, _, _, _, _, _, _, _, _, _, _, _, _, _, _, _, _, _, _, _, _, _]) ?_
    have hc19 := Chg.of_bel hb18
    have hs20 := hc19.size
    replace hb := hb.chg hc19 (by omega)
    replace hB4 := hB4.chg hc19 (by omega)
    replace hB11 := hB11.chg hc19 (by omega)
    refine s_val (v := (.bool b16)) rfl (r_pick rfl rfl) (rfl : _ = [_, _, _, _, _, _, _, _, _, _, _, _, _, _, _, _, _, _, _, _, _, _, _, _, _, _, _, _, _, _, _, _, _, _, _, _, _, _, _, _, _, _, _, _, _, _, _, _, _, _, _, _]) ?_
    refine s_val (v := (.bool b16)) rfl (r_move rfl) (rfl : _ = [_, _, _, _, _, _, _, _, _, _, _, _, _, _, _, _, _, _, _, _, _, _, _, _, _, _, _, _, _, _, _, _, _, _, _, _, _, _, _, _, _, _, _, _, _, _, _, _, _, _, _, _]) ?_
    cases b16 with
    | true =>
      replace hb16 := toB_t hb16
      refine s_val (v := (.pointer (some ⟨a1, 3, none⟩))) (wan_t (dj := 17) rfl rfl) (r_field (k := 3) (o := 0) (by kernel_rfl) rfl) (rfl : _ = [_, _, _, _, _, _, _, _, _, _, _, _, _, _, _, _, _, _, _, _, _, _, _, _, _, _, _, _, _, _, _, _, _, _, _, _, _, _, _, _, _, _, _, _, _, _, _, _, _, _, _, _]) ?_
      refine s_val (v := (.string a.cart)) (wan_t (dj := 17) rfl rfl) (r_load rfl (Ld.one Try.underlying9 rfl (hB4.cell (i := 3) rfl))) (rfl : _ = [_, _, _, _, _, _, _, _, _, _, _, _, _, _, _, _, _, _, _, _, _, _, _, _, _, _, _, _, _, _, _, _, _, _, _, _, _, _, _, _, _, _, _, _, _, _, _, _, _, _, _, _]) ?_
      refine s_val (v := (.pointer (some ⟨a8, 3, none⟩))) (wan_t (dj := 17) rfl rfl) (r_field (k := 3) (o := 0) (by kernel_rfl) rfl) (rfl : _ = [_, _, _, _, _, _, _, _, _, _, _, _, _, _, _, _, _, _, _, _, _, _, _, _, _, _, _, _, _, _, _, _, _, _, _, _, _, _, _, _, _, _, _, _, _, _, _, _, _, _, _, _]) ?_
      refine s_val (v := (.string b.cart)) (wan_t (dj := 17) rfl rfl) (r_load rfl (Ld.one Try.underlying9 rfl (hB11.cell (i := 3) rfl))) (rfl : _ = [_, _, _, _, _, _, _, _, _, _, _, _, _, _, _, _, _, _, _, _, _, _, _, _, _, _, _, _, _, _, _, _, _, _, _, _, _, _, _, _, _, _, _, _, _, _, _, _, _, _, _, _]) ?_
      refine s_bool (p := (a.cart = b.cart : Prop)) (wan_t (dj := 17) rfl rfl) (r_eqs rfl rfl) eqs_iff ?_
      intro b21 hb21
      refine norm (rfl : _ = [_, _, _, _, _, _, _, _, _, _, _, _, _, _, _, _, _, _, _, _, _, _, _, _, _, _, _, _, _, _, _, _, _, _, _, _, _, _, _, _, _, _, _, _, _, _, _, _, _, _, _, _]) ?_
      refine s_val (v := (.bool b21)) rfl (r_pick rfl rfl) (rfl : _ = [_, _, _, _, _, _, _, _, _, _, _, _, _, _, _, _, _, _, _, _, _, _, _, _, _, _, _, _, _, _, _, _, _, _, _, _, _, _, _, _, _, _, _, _, _, _, _, _, _, _, _, _]) ?_
      refine s_val (v := (.bool b21)) rfl (r_move rfl) (rfl : _ = [_, _, _, _, _, _, _, _, _, _, _, _, _, _, _, _, _, _, _, _, _, _, _, _, _, _, _, _, _, _, _, _, _, _, _, _, _, _, _, _, _, _, _, _, _, _, _, _, _, _, _, _]) ?_
      cases b21 with
      | true =>
        replace hb21 := bt hb21
        refine s_val (v := (.pointer (some ⟨a1, 4, none⟩))) (wan_t (dj := 24) rfl rfl) (r_field (k := 4) (o := 0) (by kernel_rfl) rfl) (rfl : _ = [_, _, _, _, _, _, _, _, _, _, _, _, _, _, _, _, _, _, _, _, _, _, _, _, _, _, _, _, _, _, _, _, _, _, _, _, _, _, _, _, _, _, _, _, _, _, _, _, _, _, _, _]) ?_
        refine s_val (v := (.int .i64 a.epoch)) (wan_t (dj := 24) rfl rfl) (r_load rfl (Ld.one Try.underlying3 rfl (hB4.cell (i := 4) rfl))) (rfl : _ = [_, _, _, _, _, _, _, _, _, _, _, _, _, _, _, _, _, _, _, _, _, _, _, _, _, _, _, _, _, _, _, _, _, _, _, _, _, _, _, _, _, _, _, _, _, _, _, _, _, _, _, _]) ?_
        refine s_val (v := (.pointer (some ⟨a8, 4, none⟩))) (wan_t (dj := 24) rfl rfl) (r_field (k := 4) (o := 0) (by kernel_rfl) rfl) (rfl : _ = [_, _, _, _, _, _, _, _, _, _, _, _, _, _, _, _, _, _, _, _, _, _, _, _, _, _, _, _, _, _, _, _, _, _, _, _, _, _, _, _, _, _, _, _, _, _, _, _, _, _, _, _]) ?_
        refine s_val (v := (.int .i64 b.epoch)) (wan_t (dj := 24) rfl rfl) (r_load rfl (Ld.one Try.underlying3 rfl (hB11.cell (i := 4) rfl))) (rfl : _ = [_, _, _, _, _, _, _, _, _, _, _, _, _, _, _, _, _, _, _, _, _, _, _, _, _, _, _, _, _, _, _, _, _, _, _, _, _, _, _, _, _, _, _, _, _, _, _, _, _, _, _, _]) ?_
        refine s_bool (p := (a.epoch = b.epoch : Prop)) (wan_t (dj := 24) rfl rfl) (r_eqi rfl rfl) eqi_iff ?_
        intro b22 hb22
        refine norm (rfl : _ = [_, _, _, _, _, _, _, _, _, _, _, _, _, _, _, _, _, _, _, _, _, _, _, _, _, _, _, _, _, _, _, _, _, _, _, _, _, _, _, _, _, _, _, _, _, _, _, _, _, _, _, _]) ?_
        refine s_val (v := (.bool b22)) rfl (r_pick rfl rfl) (rfl : _ = [_, _, _, _, _, _, _, _, _, _, _, _, _, _, _, _, _, _, _, _, _, _, _, _, _, _, _, _, _, _, _, _, _, _, _, _, _, _, _, _, _, _, _, _, _, _, _, _, _, _, _, _]) ?_
        refine s_val (v := (.bool b22)) rfl (r_move rfl) (rfl : _ = [_, _, _, _, _, _, _, _, _, _, _, _, _, _, _, _, _, _, _, _, _, _, _, _, _, _, _, _, _, _, _, _, _, _, _, _, _, _, _, _, _, _, _, _, _, _, _, _, _, _, _, _]) ?_
        cases b22 with
        | true =>
          replace hb22 := bt hb22
          refine s_val (v := (.pointer (some ⟨a1, 5, none⟩))) (wan_t (dj := 31) rfl rfl) (r_field (k := 5) (o := 0) (by kernel_rfl) rfl) (rfl : _ = [_, _, _, _, _, _, _, _, _, _, _, _, _, _, _, _, _, _, _, _, _, _, _, _, _, _, _, _, _, _, _, _, _, _, _, _, _, _, _, _, _, _, _, _, _, _, _, _, _, _, _, _]) ?_
          refine s_val (v := (.string a.sku)) (wan_t (dj := 31) rfl rfl) (r_load rfl (Ld.one Try.underlying9 rfl (hB4.cell (i := 5) rfl))) (rfl : _ = [_, _, _, _, _, _, _, _, _, _, _, _, _, _, _, _, _, _, _, _, _, _, _, _, _, _, _, _, _, _, _, _, _, _, _, _, _, _, _, _, _, _, _, _, _, _, _, _, _, _, _, _]) ?_
          refine s_val (v := (.pointer (some ⟨a8, 5, none⟩))) (wan_t (dj := 31) rfl rfl) (r_field (k := 5) (o := 0) (by kernel_rfl) rfl) (rfl : _ = [_, _, _, _, _, _, _, _, _, _, _, _, _, _, _, _, _, _, _, _, _, _, _, _, _, _, _, _, _, _, _, _, _, _, _, _, _, _, _, _, _, _, _, _, _, _, _, _, _, _, _, _]) ?_
          refine s_val (v := (.string b.sku)) (wan_t (dj := 31) rfl rfl) (r_load rfl (Ld.one Try.underlying9 rfl (hB11.cell (i := 5) rfl))) (rfl : _ = [_, _, _, _, _, _, _, _, _, _, _, _, _, _, _, _, _, _, _, _, _, _, _, _, _, _, _, _, _, _, _, _, _, _, _, _, _, _, _, _, _, _, _, _, _, _, _, _, _, _, _, _]) ?_
          refine s_bool (p := (a.sku = b.sku : Prop)) (wan_t (dj := 31) rfl rfl) (r_eqs rfl rfl) eqs_iff ?_
          intro b23 hb23
          refine norm (rfl : _ = [_, _, _, _, _, _, _, _, _, _, _, _, _, _, _, _, _, _, _, _, _, _, _, _, _, _, _, _, _, _, _, _, _, _, _, _, _, _, _, _, _, _, _, _, _, _, _, _, _, _, _, _]) ?_
          refine s_val (v := (.bool b23)) rfl (r_pick rfl rfl) (rfl : _ = [_, _, _, _, _, _, _, _, _, _, _, _, _, _, _, _, _, _, _, _, _, _, _, _, _, _, _, _, _, _, _, _, _, _, _, _, _, _, _, _, _, _, _, _, _, _, _, _, _, _, _, _]) ?_
          refine s_val (v := (.bool b23)) rfl (r_move rfl) (rfl : _ = [_, _, _, _, _, _, _, _, _, _, _, _, _, _, _, _, _, _, _, _, _, _, _, _, _, _, _, _, _, _, _, _, _, _, _, _, _, _, _, _, _, _, _, _, _, _, _, _, _, _, _, _]) ?_
          cases b23 with
          | true =>
            replace hb23 := bt hb23
            refine s_val (v := (.pointer (some ⟨a1, 6, none⟩))) (wan_t (dj := 38) rfl rfl) (r_field (k := 6) (o := 0) (by kernel_rfl) rfl) (rfl : _ = [_, _, _, _, _, _, _, _, _, _, _, _, _, _, _, _, _, _, _, _, _, _, _, _, _, _, _, _, _, _, _, _, _, _, _, _, _, _, _, _, _, _, _, _, _, _, _, _, _, _, _, _]) ?_
            refine s_val (v := (.int .i64 a.qty)) (wan_t (dj := 38) rfl rfl) (r_load rfl (Ld.one Try.underlying3 rfl (hB4.cell (i := 6) rfl))) (rfl : _ = [_, _, _, _, _, _, _, _, _, _, _, _, _, _, _, _, _, _, _, _, _, _, _, _, _, _, _, _, _, _, _, _, _, _, _, _, _, _, _, _, _, _, _, _, _, _, _, _, _, _, _, _]) ?_
            refine s_val (v := (.pointer (some ⟨a8, 6, none⟩))) (wan_t (dj := 38) rfl rfl) (r_field (k := 6) (o := 0) (by kernel_rfl) rfl) (rfl : _ = [_, _, _, _, _, _, _, _, _, _, _, _, _, _, _, _, _, _, _, _, _, _, _, _, _, _, _, _, _, _, _, _, _, _, _, _, _, _, _, _, _, _, _, _, _, _, _, _, _, _, _, _]) ?_
            refine s_val (v := (.int .i64 b.qty)) (wan_t (dj := 38) rfl rfl) (r_load rfl (Ld.one Try.underlying3 rfl (hB11.cell (i := 6) rfl))) (rfl : _ = [_, _, _, _, _, _, _, _, _, _, _, _, _, _, _, _, _, _, _, _, _, _, _, _, _, _, _, _, _, _, _, _, _, _, _, _, _, _, _, _, _, _, _, _, _, _, _, _, _, _, _, _]) ?_
            refine s_bool (p := (a.qty = b.qty : Prop)) (wan_t (dj := 38) rfl rfl) (r_eqi rfl rfl) eqi_iff ?_
            intro b24 hb24
            refine norm (rfl : _ = [_, _, _, _, _, _, _, _, _, _, _, _, _, _, _, _, _, _, _, _, _, _, _, _, _, _, _, _, _, _, _, _, _, _, _, _, _, _, _, _, _, _, _, _, _, _, _, _, _, _, _, _]) ?_
            refine s_val (v := (.bool b24)) rfl (r_pick rfl rfl) (rfl : _ = [_, _, _, _, _, _, _, _, _, _, _, _, _, _, _, _, _, _, _, _, _, _, _, _, _, _, _, _, _, _, _, _, _, _, _, _, _, _, _, _, _, _, _, _, _, _, _, _, _, _, _, _]) ?_
            refine s_val (v := (.bool b24)) rfl (r_move rfl) (rfl : _ = [_, _, _, _, _, _, _, _, _, _, _, _, _, _, _, _, _, _, _, _, _, _, _, _, _, _, _, _, _, _, _, _, _, _, _, _, _, _, _, _, _, _, _, _, _, _, _, _, _, _, _, _]) ?_
            cases b24 with
            | true =>
              replace hb24 := bt hb24
              refine s_val (v := (.pointer (some ⟨a1, 7, none⟩))) (wan_t (dj := 45) rfl rfl) (r_field (k := 7) (o := 0) (by kernel_rfl) rfl) (rfl : _ = [_, _, _, _, _, _, _, _, _, _, _, _, _, _, _, _, _, _, _, _, _, _, _, _, _, _, _, _, _, _, _, _, _, _, _, _, _, _, _, _, _, _, _, _, _, _, _, _, _, _, _, _]) ?_
              refine s_boolv (wan_t (dj := 45) rfl rfl) (r_load rfl (Ld.one Try.underlying4 rfl (hB4.cell (i := 7) rfl))) ?_
              intro b25 hb25
              refine norm (rfl : _ = [_, _, _, _, _, _, _, _, _, _, _, _, _, _, _, _, _, _, _, _, _, _, _, _, _, _, _, _, _, _, _, _, _, _, _, _, _, _, _, _, _, _, _, _, _, _, _, _, _, _, _, _]) ?_
              refine s_val (v := (.pointer (some ⟨a8, 7, none⟩))) (wan_t (dj := 45) rfl rfl) (r_field (k := 7) (o := 0) (by kernel_rfl) rfl) (rfl : _ = [_, _, _, _, _, _, _, _, _, _, _, _, _, _, _, _, _, _, _, _, _, _, _, _, _, _, _, _, _, _, _, _, _, _, _, _, _, _, _, _, _, _, _, _, _, _, _, _, _, _, _, _]) ?_
              refine s_boolv (wan_t (dj := 45) rfl rfl) (r_load rfl (Ld.one Try.underlying4 rfl (hB11.cell (i := 7) rfl))) ?_
              intro b26 hb26
              refine norm (rfl : _ = [_, _, _, _, _, _, _, _, _, _, _, _, _, _, _, _, _, _, _, _, _, _, _, _, _, _, _, _, _, _, _, _, _, _, _, _, _, _, _, _, _, _, _, _, _, _, _, _, _, _, _, _]) ?_
              refine s_bool (p := (b25 = b26 : Prop)) (wan_t (dj := 45) rfl rfl) (r_eqb Try.underlying4 rfl rfl) eqb_iff ?_
              intro b27 hb27
              refine norm (rfl : _ = [_, _, _, _, _, _, _, _, _, _, _, _, _, _, _, _, _, _, _, _, _, _, _, _, _, _, _, _, _, _, _, _, _, _, _, _, _, _, _, _, _, _, _, _, _, _, _, _, _, _, _, _]) ?_
              refine s_val (v := (.bool b27)) rfl (r_pick rfl rfl) (rfl : _ = [_, _, _, _, _, _, _, _, _, _, _, _, _, _, _, _, _, _, _, _, _, _, _, _, _, _, _, _, _, _, _, _, _, _, _, _, _, _, _, _, _, _, _, _, _, _, _, _, _, _, _, _]) ?_
              refine s_val (v := (.bool b27)) rfl (r_assign rfl) (rfl : _ = [_, _, _, _, _, _, _, _, _, _, _, _, _, _, _, _, _, _, _, _, _, _, _, _, _, _, _, _, _, _, _, _, _, _, _, _, _, _, _, _, _, _, _, _, _, _, _, _, _, _, _, _]) ?_
              refine s_nil rfl ?_
              refine x_seq ?_
              refine c_ret ?_
              refine post_ret rfl rfl ?_
              cases b27 with
              | true =>
                replace hb27 := bt hb27
                exact ⟨ret_yes (Ev.ext (by first | assumption | (subst_vars; assumption)) (by first | assumption | (subst_vars; assumption)) (by first | assumption | (subst_vars; assumption)) (by first | assumption | (subst_vars; assumption)) (by first | assumption | (subst_vars; assumption)) (by first | assumption | (subst_vars; assumption)) (by first | assumption | (subst_vars; assumption))), hb⟩
              | false =>
                replace hb27 := bf hb27
                exact ⟨ret_no (fun hh => by first | exact absurd (congrArg Ev.dot hh) (by first | assumption | (subst_vars; assumption)) | exact absurd (congrArg Ev.deps hh) (by first | assumption | (subst_vars; assumption)) | exact absurd (congrArg Ev.cart hh) (by first | assumption | (subst_vars; assumption)) | exact absurd (congrArg Ev.epoch hh) (by first | assumption | (subst_vars; assumption)) | exact absurd (congrArg Ev.sku hh) (by first | assumption | (subst_vars; assumption)) | exact absurd (congrArg Ev.qty hh) (by first | assumption | (subst_vars; assumption)) | exact absurd (congrArg Ev.clears hh) (by first | assumption | (subst_vars; assumption))), hb⟩
            | false =>
              replace hb24 := bf hb24
              refine s_skip (wan_f (dj := 45) rfl rfl rfl) (rfl : _ = [_, _, _, _, _, _, _, _, _, _, _, _, _, _, _, _, _, _, _, _, _, _, _, _, _, _, _, _, _, _, _, _, _, _, _, _, _, _, _, _, _, _, _, _, _, _, _, _, _, _, _, _]) ?_
              refine s_skip (wan_f (dj := 45) rfl rfl rfl) (rfl : _ = [_, _, _, _, _, _, _, _, _, _, _, _, _, _, _, _, _, _, _, _, _, _, _, _, _, _, _, _, _, _, _, _, _, _, _, _, _, _, _, _, _, _, _, _, _, _, _, _, _, _, _, _]) ?_
              refine s_skip (wan_f (dj := 45) rfl rfl rfl) (rfl : _ = [_, _, _, _, _, _, _, _, _, _, _, _, _, _, _, _, _, _, _, _, _, _, _, _, _, _, _, _, _, _, _, _, _, _, _, _, _, _, _, _, _, _, _, _, _, _, _, _, _, _, _, _]) ?_
              refine s_skip (wan_f (dj := 45) rfl rfl rfl) (rfl : _ = [_, _, _, _, _, _, _, _, _, _, _, _, _, _, _, _, _, _, _, _, _, _, _, _, _, _, _, _, _, _, _, _, _, _, _, _, _, _, _, _, _, _, _, _, _, _, _, _, _, _, _, _]) ?_
              refine s_skip (wan_f (dj := 45) rfl rfl rfl) (rfl : _ = [_, _, _, _, _, _, _, _, _, _, _, _, _, _, _, _, _, _, _, _, _, _, _, _, _, _, _, _, _, _, _, _, _, _, _, _, _, _, _, _, _, _, _, _, _, _, _, _, _, _, _, _]) ?_
              refine s_val (v := (.bool false)) rfl (r_pick rfl rfl) (rfl : _ = [_, _, _, _, _, _, _, _, _, _, _, _, _, _, _, _, _, _, _, _, _, _, _, _, _, _, _, _, _, _, _, _, _, _, _, _, _, _, _, _, _, _, _, _, _, _, _, _, _, _, _, _]) ?_
              refine s_val (v := (.bool false)) rfl (r_assign rfl) (rfl : _ = [_, _, _, _, _, _, _, _, _, _, _, _, _, _, _, _, _, _, _, _, _, _, _, _, _, _, _, _, _, _, _, _, _, _, _, _, _, _, _, _, _, _, _, _, _, _, _, _, _, _, _, _]) ?_
              refine s_nil rfl ?_
              refine x_seq ?_
              refine c_ret ?_
              refine post_ret rfl rfl ?_
              exact ⟨ret_no (fun hh => by first | exact absurd (congrArg Ev.dot hh) (by first | assumption | (subst_vars; assumption)) | exact absurd (congrArg Ev.deps hh) (by first | assumption | (subst_vars; assumption)) | exact absurd (congrArg Ev.cart hh) (by first | assumption | (subst_vars; assumption)) | exact absurd (congrArg Ev.epoch hh) (by first | assumption | (subst_vars; assumption)) | exact absurd (congrArg Ev.sku hh) (by first | assumption | (subst_vars; assumption)) | exact absurd (congrArg Ev.qty hh) (by first | assumption | (subst_vars; assumption)) | exact absurd (congrArg Ev.clears hh) (by first | assumption | (subst_vars; assumption))), hb⟩
          | false =>
            replace hb23 := bf hb23
            refine s_skip (wan_f (dj := 38) rfl rfl rfl) (rfl : _ = [_, _, _, _, _, _, _, _, _, _, _, _, _, _, _, _, _, _, _, _, _, _, _, _, _, _, _, _, _, _, _, _, _, _, _, _, _, _, _, _, _, _, _, _, _, _, _, _, _, _, _, _]) ?_
            refine s_skip (wan_f (dj := 38) rfl rfl rfl) (rfl : _ = [_, _, _, _, _, _, _, _, _, _, _, _, _, _, _, _, _, _, _, _, _, _, _, _, _, _, _, _, _, _, _, _, _, _, _, _, _, _, _, _, _, _, _, _, _, _, _, _, _, _, _, _]) ?_
            refine s_skip (wan_f (dj := 38) rfl rfl rfl) (rfl : _ = [_, _, _, _, _, _, _, _, _, _, _, _, _, _, _, _, _, _, _, _, _, _, _, _, _, _, _, _, _, _, _, _, _, _, _, _, _, _, _, _, _, _, _, _, _, _, _, _, _, _, _, _]) ?_
            refine s_skip (wan_f (dj := 38) rfl rfl rfl) (rfl : _ = [_, _, _, _, _, _, _, _, _, _, _, _, _, _, _, _, _, _, _, _, _, _, _, _, _, _, _, _, _, _, _, _, _, _, _, _, _, _, _, _, _, _, _, _, _, _, _, _, _, _, _, _]) ?_
            refine s_skip (wan_f (dj := 38) rfl rfl rfl) (rfl : _ = [_, _, _, _, _, _, _, _, _, _, _, _, _, _, _, _, _, _, _, _, _, _, _, _, _, _, _, _, _, _, _, _, _, _, _, _, _, _, _, _, _, _, _, _, _, _, _, _, _, _, _, _]) ?_
            refine s_val (v := (.bool false)) rfl (r_pick rfl rfl) (rfl : _ = [_, _, _, _, _, _, _, _, _, _, _, _, _, _, _, _, _, _, _, _, _, _, _, _, _, _, _, _, _, _, _, _, _, _, _, _, _, _, _, _, _, _, _, _, _, _, _, _, _, _, _, _]) ?_
            refine s_val (v := (.bool false)) rfl (r_move rfl) (rfl : _ = [_, _, _, _, _, _, _, _, _, _, _, _, _, _, _, _, _, _, _, _, _, _, _, _, _, _, _, _, _, _, _, _, _, _, _, _, _, _, _, _, _, _, _, _, _, _, _, _, _, _, _, _]) ?_
            refine s_skip (wan_f (dj := 45) rfl rfl rfl) (rfl : _ = [_, _, _, _, _, _, _, _, _, _, _, _, _, _, _, _, _, _, _, _, _, _, _, _, _, _, _, _, _, _, _, _, _, _, _, _, _, _, _, _, _, _, _, _, _, _, _, _, _, _, _, _]) ?_
            refine s_skip (wan_f (dj := 45) rfl rfl rfl) (rfl : _ = [_, _, _, _, _, _, _, _, _, _, _, _, _, _, _, _, _, _, _, _, _, _, _, _, _, _, _, _, _, _, _, _, _, _, _, _, _, _, _, _, _, _, _, _, _, _, _, _, _, _, _, _]) ?_
            refine s_skip (wan_f (dj := 45) rfl rfl rfl) (rfl : _ = [_, _, _, _, _, _, _, _, _, _, _, _, _, _, _, _, _, _, _, _, _, _, _, _, _, _, _, _, _, _, _, _, _, _, _, _, _, _, _, _, _, _, _, _, _, _, _, _, _, _, _, _]) ?_
            refine s_skip (wan_f (dj := 45) rfl rfl rfl) (rfl : _ = [_, _, _, _, _, _, _, _, _, _, _, _, _, _, _, _, _, _, _, _, _, _, _, _, _, _, _, _, _, _, _, _, _, _, _, _, _, _, _, _, _, _, _, _, _, _, _, _, _, _, _, _]) ?_
            refine s_skip (wan_f (dj := 45) rfl rfl rfl) (rfl : _ = [_, _, _, _, _, _, _, _, _, _, _, _, _, _, _, _, _, _, _, _, _, _, _, _, _, _, _, _, _, _, _, _, _, _, _, _, _, _, _, _, _, _, _, _, _, _, _, _, _, _, _, _]) ?_
            refine s_val (v := (.bool false)) rfl (r_pick rfl rfl) (rfl : _ = [_, _, _, _, _, _, _, _, _, _, _, _, _, _, _, _, _, _, _, _, _, _, _, _, _, _, _, _, _, _, _, _, _, _, _, _, _, _, _, _, _, _, _, _, _, _, _, _, _, _, _, _]) ?_
            refine s_val (v := (.bool false)) rfl (r_assign rfl) (rfl : _ = [_, _, _, _, _, _, _, _, _, _, _, _, _, _, _, _, _, _, _, _, _, _, _, _, _, _, _, _, _, _, _, _, _, _, _, _, _, _, _, _, _, _, _, _, _, _, _, _, _, _, _, _]) ?_
            refine s_nil rfl ?_
            refine x_seq ?_
            refine c_ret ?_
            refine post_ret rfl rfl ?_
            exact ⟨ret_no (fun hh => by first | exact absurd (congrArg Ev.dot hh) (by first | assumption | (subst_vars; assumption)) | exact absurd (congrArg Ev.deps hh) (by first | assumption | (subst_vars; assumption)) | exact absurd (congrArg Ev.cart hh) (by first | assumption | (subst_vars; assumption)) | exact absurd (congrArg Ev.epoch hh) (by first | assumption | (subst_vars; assumption)) | exact absurd (congrArg Ev.sku hh) (by first | assumption | (subst_vars; assumption)) | exact absurd (congrArg Ev.qty hh) (by first | assumption | (subst_vars; assumption)) | exact absurd (congrArg Ev.clears hh) (by first | assumption | (subst_vars; assumption))), hb⟩
        | false =>
          replace hb22 := bf hb22
          refine s_skip (wan_f (dj := 31) rfl rfl rfl) (rfl : _ = [_, _, _, _, _, _, _, _, _, _, _, _, _, _, _, _, _, _, _, _, _, _, _, _, _, _, _, _, _, _, _, _, _, _, _, _, _, _, _, _, _, _, _, _, _, _, _, _, _, _, _, _]) ?_
          refine s_skip (wan_f (dj := 31) rfl rfl rfl) (rfl : _ = [_, _, _, _, _, _, _, _, _, _, _, _, _, _, _, _, _, _, _, _, _, _, _, _, _, _, _, _, _, _, _, _, _, _, _, _, _, _, _, _, _, _, _, _, _, _, _, _, _, _, _, _]) ?_
          refine s_skip (wan_f (dj := 31) rfl rfl rfl) (rfl : _ = [_, _, _, _, _, _, _, _, _, _, _, _, _, _, _, _, _, _, _, _, _, _, _, _, _, _, _, _, _, _, _, _, _, _, _, _, _, _, _, _, _, _, _, _, _, _, _, _, _, _, _, _]) ?_
          refine s_skip (wan_f (dj := 31) rfl rfl rfl) (rfl : _ = [_, _, _, _, _, _, _, _, _, _, _, _, _, _, _, _, _, _, _, _, _, _, _, _, _, _, _, _, _, _, _, _, _, _, _, _, _, _, _, _, _, _, _, _, _, _, _, _, _, _, _, _]) ?_
          refine s_skip (wan_f (dj := 31) rfl rfl rfl) (rfl : _ = [_, _, _, _, _, _, _, _, _, _, _, _, _, _, _, _, _, _, _, _, _, _, _, _, _, _, _, _, _, _, _, _, _, _, _, _, _, _, _, _, _, _, _, _, _, _, _, _, _, _, _, _]) ?_
          refine s_val (v := (.bool false)) rfl (r_pick rfl rfl) (rfl : _ = [_, _, _, _, _, _, _, _, _, _, _, _, _, _, _, _, _, _, _, _, _, _, _, _, _, _, _, _, _, _, _, _, _, _, _, _, _, _, _, _, _, _, _, _, _, _, _, _, _, _, _, _]) ?_
          refine s_val (v := (.bool false)) rfl (r_move rfl) (rfl : _ = [_, _, _, _, _, _, _, _, _, _, _, _, _, _, _, _, _, _, _, _, _, _, _, _, _, _, _, _, _, _, _, _, _, _, _, _, _, _, _, _, _, _, _, _, _, _, _, _, _, _, _, _]) ?_
          refine s_skip (wan_f (dj := 38) rfl rfl rfl) (rfl : _ = [_, _, _, _, _, _, _, _, _, _, _, _, _, _, _, _, _, _, _, _, _, _, _, _, _, _, _, _, _, _, _, _, _, _, _, _, _, _, _, _, _, _, _, _, _, _, _, _, _, _, _, _]) ?_
          refine s_skip (wan_f (dj := 38) rfl rfl rfl) (rfl : _ = [_, _, _, _, _, _, _, _, _, _, _, _, _, _, _, _, _, _, _, _, _, _, _, _, _, _, _, _, _, _, _, _, _, _, _, _, _, _, _, _, _, _, _, _, _, _, _, _, _, _, _, _]) ?_
          refine s_skip (wan_f (dj := 38) rfl rfl rfl) (rfl : _ = [_, _, _, _, _, _, _, _, _, _, _, _, _, _, _, _, _, _, _, _, _, _, _, _, _, _, _, _, _, _, _, _, _, _, _, _, _, _, _, _, _, _, _, _, _, _, _, _, _, _, _, _]) ?_
          refine s_skip (wan_f (dj := 38) rfl rfl rfl) (rfl : _ = [_, _, _, _, _, _, _, _, _, _, _, _, _, _, _, _, _, _, _, _, _, _, _, _, _, _, _, _, _, _, _, _, _, _, _, _, _, _, _, _, _, _, _, _, _, _, _, _, _, _, _, _]) ?_
          refine s_skip (wan_f (dj := 38) rfl rfl rfl) (rfl : _ = [_, _, _, _, _, _, _, _, _, _, _, _, _, _, _, _, _, _, _, _, _, _, _, _, _, _, _, _, _, _, _, _, _, _, _, _, _, _, _, _, _, _, _, _, _, _, _, _, _, _, _, _]) ?_
          refine s_val (v := (.bool false)) rfl (r_pick rfl rfl) (rfl : _ = [_, _, _, _, _, _, _, _, _, _, _, _, _, _, _, _, _, _, _, _, _, _, _, _, _, _, _, _, _, _, _, _, _, _, _, _, _, _, _, _, _, _, _, _, _, _, _, _, _, _, _, _]) ?_
          refine s_val (v := (.bool false)) rfl (r_move rfl) (rfl : _ = [_, _, _, _, _, _, _, _, _, _, _, _, _, _, _, _, _, _, _, _, _, _, _, _, _, _, _, _, _, _, _, _, _, _, _, _, _, _, _, _, _, _, _, _, _, _, _, _, _, _, _, _]) ?_
          refine s_skip (wan_f (dj := 45) rfl rfl rfl) (rfl : _ = [_, _, _, _, _, _, _, _, _, _, _, _, _, _, _, _, _, _, _, _, _, _, _, _, _, _, _, _, _, _, _, _, _, _, _, _, _, _, _, _, _, _, _, _, _, _, _, _, _, _, _, _]) ?_
          refine s_skip (wan_f (dj := 45) rfl rfl rfl) (rfl : _ = [_, _, _, _, _, _, _, _, _, _, _, _, _, _, _, _, _, _, _, _, _, _, _, _, _, _, _, _, _, _, _, _, _, _, _, _, _, _, _, _, _, _, _, _, _, _, _, _, _, _, _, _]) ?_
          refine s_skip (wan_f (dj := 45) rfl rfl rfl) (rfl : _ = [_, _, _, _, _, _, _, _, _, _, _, _, _, _, _, _, _, _, _, _, _, _, _, _, _, _, _, _, _, _, _, _, _, _, _, _, _, _, _, _, _, _, _, _, _, _, _, _, _, _, _, _]) ?_
          refine s_skip (wan_f (dj := 45) rfl rfl rfl) (rfl : _ = [_, _, _, _, _, _, _, _, _, _, _, _, _, _, _, _, _, _, _, _, _, _, _, _, _, _, _, _, _, _, _, _, _, _, _, _, _, _, _, _, _, _, _, _, _, _, _, _, _, _, _, _]) ?_
          refine s_skip (wan_f (dj := 45) rfl rfl rfl) (rfl : _ = [_, _, _, _, _, _, _, _, _, _, _, _, _, _, _, _, _, _, _, _, _, _, _, _, _, _, _, _, _, _, _, _, _, _, _, _, _, _, _, _, _, _, _, _, _, _, _, _, _, _, _, _]) ?_
          refine s_val (v := (.bool false)) rfl (r_pick rfl rfl) (rfl : _ = [_, _, _, _, _, _, _, _, _, _, _, _, _, _, _, _, _, _, _, _, _, _, _, _, _, _, _, _, _, _, _, _, _, _, _, _, _, _, _, _, _, _, _, _, _, _, _, _, _, _, _, _]) ?_
          refine s_val (v := (.bool false)) rfl (r_assign rfl) (rfl : _ = [_, _, _, _, _, _, _, _, _, _, _, _, _, _, _, _, _, _, _, _, _, _, _, _, _, _, _, _, _, _, _, _, _, _, _, _, _, _, _, _, _, _, _, _, _, _, _, _, _, _, _, _]) ?_
          refine s_nil rfl ?_
          refine x_seq ?_
          refine c_ret ?_
          refine post_ret rfl rfl ?_
          exact ⟨ret_no (fun hh => by first | exact absurd (congrArg Ev.dot hh) (by first | assumption | (subst_vars; assumption)) | exact absurd (congrArg Ev.deps hh) (by first | assumption | (subst_vars; assumption)) | exact absurd (congrArg Ev.cart hh) (by first | assumption | (subst_vars; assumption)) | exact absurd (congrArg Ev.epoch hh) (by first | assumption | (subst_vars; assumption)) | exact absurd (congrArg Ev.sku hh) (by first | assumption | (subst_vars; assumption)) | exact absurd (congrArg Ev.qty hh) (by first | assumption | (subst_vars; assumption)) | exact absurd (congrArg Ev.clears hh) (by first | assumption | (subst_vars; assumption))), hb⟩
      | false =>
        replace hb21 := bf hb21
        refine s_skip (wan_f (dj := 24) rfl rfl rfl) (rfl : _ = [_, _, _, _, _, _, _, _, _, _, _, _, _, _, _, _, _, _, _, _, _, _, _, _, _, _, _, _, _, _, _, _, _, _, _, _, _, _, _, _, _, _, _, _, _, _, _, _, _, _, _, _]) ?_
        refine s_skip (wan_f (dj := 24) rfl rfl rfl) (rfl : _ = [_, _, _, _, _, _, _, _, _, _, _, _, _, _, _, _, _, _, _, _, _, _, _, _, _, _, _, _, _, _, _, _, _, _, _, _, _, _, _, _, _, _, _, _, _, _, _, _, _, _, _, _]) ?_
        refine s_skip (wan_f (dj := 24) rfl rfl rfl) (rfl : _ = [_, _, _, _, _, _, _, _, _, _, _, _, _, _, _, _, _, _, _, _, _, _, _, _, _, _, _, _, _, _, _, _, _, _, _, _, _, _, _, _, _, _, _, _, _, _, _, _, _, _, _, _]) ?_
        refine s_skip (wan_f (dj := 24) rfl rfl rfl) (rfl : _ = [_, _, _, _, _, _, _, _, _, _, _, _, _, _, _, _, _, _, _, _, _, _, _, _, _, _, _, _, _, _, _, _, _, _, _, _, _, _, _, _, _, _, _, _, _, _, _, _, _, _, _, _]) ?_
        refine s_skip (wan_f (dj := 24) rfl rfl rfl) (rfl : _ = [_, _, _, _, _, _, _, _, _, _, _, _, _, _, _, _, _, _, _, _, _, _, _, _, _, _, _, _, _, _, _, _, _, _, _, _, _, _, _, _, _, _, _, _, _, _, _, _, _, _, _, _]) ?_
        refine s_val (v := (.bool false)) rfl (r_pick rfl rfl) (rfl : _ = [_, _, _, _, _, _, _, _, _, _, _, _, _, _, _, _, _, _, _, _, _, _, _, _, _, _, _, _, _, _, _, _, _, _, _, _, _, _, _, _, _, _, _, _, _, _, _, _, _, _, _, _]) ?_
        refine s_val (v := (.bool false)) rfl (r_move rfl) (rfl : _ = [_, _, _, _, _, _, _, _, _, _, _, _, _, _, _, _, _, _, _, _, _, _, _, _, _, _, _, _, _, _, _, _, _, _, _, _, _, _, _, _, _, _, _, _, _, _, _, _, _, _, _, _]) ?_
        refine s_skip (wan_f (dj := 31) rfl rfl rfl) (rfl : _ = [_, _, _, _, _, _, _, _, _, _, _, _, _, _, _, _, _, _, _, _, _, _, _, _, _, _, _, _, _, _, _, _, _, _, _, _, _, _, _, _, _, _, _, _, _, _, _, _, _, _, _, _]) ?_
        refine s_skip (wan_f (dj := 31) rfl rfl rfl) (rfl : _ = [_, _, _, _, _, _, _, _, _, _, _, _, _, _, _, _, _, _, _, _, _, _, _, _, _, _, _, _, _, _, _, _, _, _, _, _, _, _, _, _, _, _, _, _, _, _, _, _, _, _, _, _]) ?_
        refine s_skip (wan_f (dj := 31) rfl rfl rfl) (rfl : _ = [_, _, _, _, _, _, _, _, _, _, _, _, _, _, _, _, _, _, _, _, _, _, _, _, _, _, _, _, _, _, _, _, _, _, _, _, _, _, _, _, _, _, _, _, _, _, _, _, _, _, _, _]) ?_
        refine s_skip (wan_f (dj := 31) rfl rfl rfl) (rfl : _ = [_, _, _, _, _, _, _, _, _, _, _, _, _, _, _, _, _, _, _, _, _, _, _, _, _, _, _, _, _, _, _, _, _, _, _, _, _, _, _, _, _, _, _, _, _, _, _, _, _, _, _, _]) ?_
        refine s_skip (wan_f (dj := 31) rfl rfl rfl) (rfl : _ = [_, _, _, _, _, _, _, _, _, _, _, _, _, _, _, _, _, _, _, _, _, _, _, _, _, _, _, _, _, _, _, _, _, _, _, _, _, _, _, _, _, _, _, _, _, _, _, _, _, _, _, _]) ?_
        refine s_val (v := (.bool false)) rfl (r_pick rfl rfl) (rfl : _ = [_, _, _, _, _, _, _, _, _, _, _, _, _, _, _, _, _, _, _, _, _, _, _, _, _, _, _, _, _, _, _, _, _, _, _, _, _, _, _, _, _, _, _, _, _, _, _, _, _, _, _, _]) ?_
        refine s_val (v := (.bool false)) rfl (r_move rfl) (rfl : _ = [_, _, _, _, _, _, _, _, _, _, _, _, _, _, _, _, _, _, _, _, _, _, _, _, _, _, _, _, _, _, _, _, _, _, _, _, _, _, _, _, _, _, _, _, _, _, _, _, _, _, _, _]) ?_
        refine s_skip (wan_f (dj := 38) rfl rfl rfl) (rfl : _ = [_, _, _, _, _, _, _, _, _, _, _, _, _, _, _, _, _, _, _, _, _, _, _, _, _, _, _, _, _, _, _, _, _, _, _, _, _, _, _, _, _, _, _, _, _, _, _, _, _, _, _, _]) ?_
        refine s_skip (wan_f (dj := 38) rfl rfl rfl) (rfl : _ = [_, _, _, _, _, _, _, _, _, _, _, _, _, _, _, _, _, _, _, _, _, _, _, _, _, _, _, _, _, _, _, _, _, _, _, _, _, _, _, _, _, _, _, _, _, _, _, _, _, _, _, _]) ?_
        refine s_skip (wan_f (dj := 38) rfl rfl rfl) (rfl : _ = [_, _, _, _, _, _, _, _, _, _, _, _, _, _, _, _, _, _, _, _, _, _, _, _, _, _, _, _, _, _, _, _, _, _, _, _, _, _, _, _, _, _, _, _, _, _, _, _, _, _, _, _]) ?_
        refine s_skip (wan_f (dj := 38) rfl rfl rfl) (rfl : _ = [_, _, _, _, _, _, _, _, _, _, _, _, _, _, _, _, _, _, _, _, _, _, _, _, _, _, _, _, _, _, _, _, _, _, _, _, _, _, _, _, _, _, _, _, _, _, _, _, _, _, _, _]) ?_
        refine s_skip (wan_f (dj := 38) rfl rfl rfl) (rfl : _ = [_, _, _, _, _, _, _, _, _, _, _, _, _, _, _, _, _, _, _, _, _, _, _, _, _, _, _, _, _, _, _, _, _, _, _, _, _, _, _, _, _, _, _, _, _, _, _, _, _, _, _, _]) ?_
        refine s_val (v := (.bool false)) rfl (r_pick rfl rfl) (rfl : _ = [_, _, _, _, _, _, _, _, _, _, _, _, _, _, _, _, _, _, _, _, _, _, _, _, _, _, _, _, _, _, _, _, _, _, _, _, _, _, _, _, _, _, _, _, _, _, _, _, _, _, _, _]) ?_
        refine s_val (v := (.bool false)) rfl (r_move rfl) (rfl : _ = [_, _, _, _, _, _, _, _, _, _, _, _, _, _, _, _, _, _, _, _, _, _, _, _, _, _, _, _, _, _, _, _, _, _, _, _, _, _, _, _, _, _, _, _, _, _, _, _, _, _, _, _]) ?_
        refine s_skip (wan_f (dj := 45) rfl rfl rfl) (rfl : _ = [_, _, _, _, _, _, _, _, _, _, _, _, _, _, _, _, _, _, _, _, _, _, _, _, _, _, _, _, _, _, _, _, _, _, _, _, _, _, _, _, _, _, _, _, _, _, _, _, _, _, _, _]) ?_
        refine s_skip (wan_f (dj := 45) rfl rfl rfl) (rfl : _ = [_, _, _, _, _, _, _, _, _, _, _, _, _, _, _, _, _, _, _, _, _, _, _, _, _, _, _, _, _, _, _, _, _, _, _, _, _, _, _, _, _, _, _, _, _, _, _, _, _, _, _, _]) ?_
        refine s_skip (wan_f (dj := 45) rfl rfl rfl) (rfl : _ = [_, _, _, _, _, _, _, _, _, _, _, _, _, _, _, _, _, _, _, _, _, _, _, _, _, _, _, _, _, _, _, _, _, _, _, _, _, _, _, _, _, _, _, _, _, _, _, _, _, _, _, _]) ?_
        refine s_skip (wan_f (dj := 45) rfl rfl rfl) (rfl : _ = [_, _, _, _, _, _, _, _, _, _, _, _, _, _, _, _, _, _, _, _, _, _, _, _, _, _, _, _, _, _, _, _, _, _, _, _, _, _, _, _, _, _, _, _, _, _, _, _, _, _, _, _]) ?_
        refine s_skip (wan_f (dj := 45) rfl rfl rfl) (rfl : _ = [_, _, _, _, _, _, _, _, _, _, _, _, _, _, _, _, _, _, _, _, _, _, _, _, _, _, _, _, _, _, _, _, _, _, _, _, _, _, _, _, _, _, _, _, _, _, _, _, _, _, _, _]) ?_
        refine s_val (v := (.bool false)) rfl (r_pick rfl rfl) (rfl : _ = [_, _, _, _, _, _, _, _, _, _, _, _, _, _, _, _, _, _, _, _, _, _, _, _, _, _, _, _, _, _, _, _, _, _, _, _, _, _, _, _, _, _, _, _, _, _, _, _, _, _, _, _]) ?_
        refine s_val (v := (.bool false)) rfl (r_assign rfl) (rfl : _ = [_, _, _, _, _, _, _, _, _, _, _, _, _, _, _, _, _, _, _, _, _, _, _, _, _, _, _, _, _, _, _, _, _, _, _, _, _, _, _, _, _, _, _, _, _, _, _, _, _, _, _, _]) ?_
        refine s_nil rfl ?_
        refine x_seq ?_
        refine c_ret ?_
        refine post_ret rfl rfl ?_
        exact ⟨ret_no (fun hh => by first | exact absurd (congrArg Ev.dot hh) (by first | assumption | (subst_vars; assumption)) | exact absurd (congrArg Ev.deps hh) (by first | assumption | (subst_vars; assumption)) | exact absurd (congrArg Ev.cart hh) (by first | assumption | (subst_vars; assumption)) | exact absurd (congrArg Ev.epoch hh) (by first | assumption | (subst_vars; assumption)) | exact absurd (congrArg Ev.sku hh) (by first | assumption | (subst_vars; assumption)) | exact absurd (congrArg Ev.qty hh) (by first | assumption | (subst_vars; assumption)) | exact absurd (congrArg Ev.clears hh) (by first | assumption | (subst_vars; assumption))), hb⟩
    | false =>
      replace hb16 := toB_f hb16
      refine s_skip (wan_f (dj := 17) rfl rfl rfl) (rfl : _ = [_, _, _, _, _, _, _, _, _, _, _, _, _, _, _, _, _, _, _, _, _, _, _, _, _, _, _, _, _, _, _, _, _, _, _, _, _, _, _, _, _, _, _, _, _, _, _, _, _, _, _, _]) ?_
      refine s_skip (wan_f (dj := 17) rfl rfl rfl) (rfl : _ = [_, _, _, _, _, _, _, _, _, _, _, _, _, _, _, _, _, _, _, _, _, _, _, _, _, _, _, _, _, _, _, _, _, _, _, _, _, _, _, _, _, _, _, _, _, _, _, _, _, _, _, _]) ?_
      refine s_skip (wan_f (dj := 17) rfl rfl rfl) (rfl : _ = [_, _, _, _, _, _, _, _, _, _, _, _, _, _, _, _, _, _, _, _, _, _, _, _, _, _, _, _, _, _, _, _, _, _, _, _, _, _, _, _, _, _, _, _, _, _, _, _, _, _, _, _]) ?_
      refine s_skip (wan_f (dj := 17) rfl rfl rfl) (rfl : _ = [_, _, _, _, _, _, _, _, _, _, _, _, _, _, _, _, _, _, _, _, _, _, _, _, _, _, _, _, _, _, _, _, _, _, _, _, _, _, _, _, _, _, _, _, _, _, _, _, _, _, _, _]) ?_
      refine s_skip (wan_f (dj := 17) rfl rfl rfl) (rfl : _ = [_, _, _, _, _, _, _, _, _, _, _, _, _, _, _, _, _, _, _, _, _, _, _, _, _, _, _, _, _, _, _, _, _, _, _, _, _, _, _, _, _, _, _, _, _, _, _, _, _, _, _, _]) ?_
      refine s_val (v := (.bool false)) rfl (r_pick rfl rfl) (rfl : _ = [_, _, _, _, _, _, _, _, _, _, _, _, _, _, _, _, _, _, _, _, _, _, _, _, _, _, _, _, _, _, _, _, _, _, _, _, _, _, _, _, _, _, _, _, _, _, _, _, _, _, _, _]) ?_
      refine s_val (v := (.bool false)) rfl (r_move rfl) (rfl : _ = [_, _, _, _, _, _, _, _, _, _, _, _, _, _, _, _, _, _, _, _, _, _, _, _, _, _, _, _, _, _, _, _, _, _, _, _, _, _, _, _, _, _, _, _, _, _, _, _, _, _, _, _]) ?_
      refine s_skip (wan_f (dj := 24) rfl rfl rfl) (rfl : _ = [_, _, _, _, _, _, _, _, _, _, _, _, _, _, _, _, _, _, _, _, _, _, _, _, _, _, _, _, _, _, _, _, _, _, _, _, _, _, _, _, _, _, _, _, _, _, _, _, _, _, _, _]) ?_
      refine s_skip (wan_f (dj := 24) rfl rfl rfl) (rfl : _ = [_, _, _, _, _, _, _, _, _, _, _, _, _, _, _, _, _, _, _, _, _, _, _, _, _, _, _, _, _, _, _, _, _, _, _, _, _, _, _, _, _, _, _, _, _, _, _, _, _, _, _, _]) ?_
      refine s_skip (wan_f (dj := 24) rfl rfl rfl) (rfl : _ = [_, _, _, _, _, _, _, _, _, _, _, _, _, _, _, _, _, _, _, _, _, _, _, _, _, _, _, _, _, _, _, _, _, _, _, _, _, _, _, _, _, _, _, _, _, _, _, _, _, _, _, _]) ?_
      refine s_skip (wan_f (dj := 24) rfl rfl rfl) (rfl : _ = [_, _, _, _, _, _, _, _, _, _, _, _, _, _, _, _, _, _, _, _, _, _, _, _, _, _, _, _, _, _, _, _, _, _, _, _, _, _, _, _, _, _, _, _, _, _, _, _, _, _, _, _]) ?_
      refine s_skip (wan_f (dj := 24) rfl rfl rfl) (rfl : _ = [_, _, _, _, _, _, _, _, _, _, _, _, _, _, _, _, _, _, _, _, _, _, _, _, _, _, _, _, _, _, _, _, _, _, _, _, _, _, _, _, _, _, _, _, _, _, _, _, _, _, _, _]) ?_
      refine s_val (v := (.bool false)) rfl (r_pick rfl rfl) (rfl : _ = [_, _, _, _, _, _, _, _, _, _, _, _, _, _, _, _, _, _, _, _, _, _, _, _, _, _, _, _, _, _, _, _, _, _, _, _, _, _, _, _, _, _, _, _, _, _, _, _, _, _, _, _]) ?_
      refine s_val (v := (.bool false)) rfl (r_move rfl) (rfl : _ = [_, _, _, _, _, _, _, _, _, _, _, _, _, _, _, _, _, _, _, _, _, _, _, _, _, _, _, _, _, _, _, _, _, _, _, _, _, _, _, _, _, _, _, _, _, _, _, _, _, _, _, _]) ?_
      refine s_skip (wan_f (dj := 31) rfl rfl rfl) (rfl : _ = [_, _, _, _, _, _, _, _, _, _, _, _, _, _, _, _, _, _, _, _, _, _, _, _, _, _, _, _, _, _, _, _, _, _, _, _, _, _, _, _, _, _, _, _, _, _, _, _, _, _, _, _]) ?_
      refine s_skip (wan_f (dj := 31) rfl rfl rfl) (rfl : _ = [_, _, _, _, _, _, _, _, _, _, _, _, _, _, _, _, _, _, _, _, _, _, _, _, _, _, _, _, _, _, _, _, _, _, _, _, _, _, _, _, _, _, _, _, _, _, _, _, _, _, _, _]) ?_
      refine s_skip (wan_f (dj := 31) rfl rfl rfl) (rfl : _ = [_, _, _, _, _, _, _, _, _, _, _, _, _, _, _, _, _, _, _, _, _, _, _, _, _, _, _, _, _, _, _, _, _, _, _, _, _, _, _, _, _, _, _, _, _, _, _, _, _, _, _, _]) ?_
      refine s_skip (wan_f (dj := 31) rfl rfl rfl) (rfl : _ = [_, _, _, _, _, _, _, _, _, _, _, _, _, _, _, _, _, _, _, _, _, _, _, _, _, _, _, _, _, _, _, _, _, _, _, _, _, _, _, _, _, _, _, _, _, _, _, _, _, _, _, _]) ?_
      refine s_skip (wan_f (dj := 31) rfl rfl rfl) (rfl : _ = [_, _, _, _, _, _, _, _, _, _, _, _, _, _, _, _, _, _, _, _, _, _, _, _, _, _, _, _, _, _, _, _, _, _, _, _, _, _, _, _, _, _, _, _, _, _, _, _, _, _, _, _]) ?_
      refine s_val (v := (.bool false)) rfl (r_pick rfl rfl) (rfl : _ = [_, _, _, _, _, _, _, _, _, _, _, _, _, _, _, _, _, _, _, _, _, _, _, _, _, _, _, _, _, _, _, _, _, _, _, _, _, _, _, _, _, _, _, _, _, _, _, _, _, _, _, _]) ?_
      refine s_val (v := (.bool false)) rfl (r_move rfl) (rfl : _ = [_, _, _, _, _, _, _, _, _, _, _, _, _, _, _, _, _, _, _, _, _, _, _, _, _, _, _, _, _, _, _, _, _, _, _, _, _, _, _, _, _, _, _, _, _, _, _, _, _, _, _, _]) ?_
      refine s_skip (wan_f (dj := 38) rfl rfl rfl) (rfl : _ = [_, _, _, _, _, _, _, _, _, _, _, _, _, _, _, _, _, _, _, _, _, _, _, _, _, _, _, _, _, _, _, _, _, _, _, _, _, _, _, _, _, _, _, _, _, _, _, _, _, _, _, _]) ?_
      refine s_skip (wan_f (dj := 38) rfl rfl rfl) (rfl : _ = [_, _, _, _, _, _, _, _, _, _, _, _, _, _, _, _, _, _, _, _, _, _, _, _, _, _, _, _, _, _, _, _, _, _, _, _, _, _, _, _, _, _, _, _, _, _, _, _, _, _, _, _]) ?_
      refine s_skip (wan_f (dj := 38) rfl rfl rfl) (rfl : _ = [_, _, _, _, _, _, _, _, _, _, _, _, _, _, _, _, _, _, _, _, _, _, _, _, _, _, _, _, _, _, _, _, _, _, _, _, _, _, _, _, _, _, _, _, _, _, _, _, _, _, _, _]) ?_
      refine s_skip (wan_f (dj := 38) rfl rfl rfl) (rfl : _ = [_, _, _, _, _, _, _, _, _, _, _, _, _, _, _, _, _, _, _, _, _, _, _, _, _, _, _, _, _, _, _, _, _, _, _, _, _, _, _, _, _, _, _, _, _, _, _, _, _, _, _, _]) ?_
      refine s_skip (wan_f (dj := 38) rfl rfl rfl) (rfl : _ = [_, _, _, _, _, _, _, _, _, _, _, _, _, _, _, _, _, _, _, _, _, _, _, _, _, _, _, _, _, _, _, _, _, _, _, _, _, _, _, _, _, _, _, _, _, _, _, _, _, _, _, _]) ?_
      refine s_val (v := (.bool false)) rfl (r_pick rfl rfl) (rfl : _ = [_, _, _, _, _, _, _, _, _, _, _, _, _, _, _, _, _, _, _, _, _, _, _, _, _, _, _, _, _, _, _, _, _, _, _, _, _, _, _, _, _, _, _, _, _, _, _, _, _, _, _, _]) ?_
      refine s_val (v := (.bool false)) rfl (r_move rfl) (rfl : _ = [_, _, _, _, _, _, _, _, _, _, _, _, _, _, _, _, _, _, _, _, _, _, _, _, _, _, _, _, _, _, _, _, _, _, _, _, _, _, _, _, _, _, _, _, _, _, _, _, _, _, _, _]) ?_
      refine s_skip (wan_f (dj := 45) rfl rfl rfl) (rfl : _ = [_, _, _, _, _, _, _, _, _, _, _, _, _, _, _, _, _, _, _, _, _, _, _, _, _, _, _, _, _, _, _, _, _, _, _, _, _, _, _, _, _, _, _, _, _, _, _, _, _, _, _, _]) ?_
      refine s_skip (wan_f (dj := 45) rfl rfl rfl) (rfl : _ = [_, _, _, _, _, _, _, _, _, _, _, _, _, _, _, _, _, _, _, _, _, _, _, _, _, _, _, _, _, _, _, _, _, _, _, _, _, _, _, _, _, _, _, _, _, _, _, _, _, _, _, _]) ?_
      refine s_skip (wan_f (dj := 45) rfl rfl rfl) (rfl : _ = [_, _, _, _, _, _, _, _, _, _, _, _, _, _, _, _, _, _, _, _, _, _, _, _, _, _, _, _, _, _, _, _, _, _, _, _, _, _, _, _, _, _, _, _, _, _, _, _, _, _, _, _]) ?_
      refine s_skip (wan_f (dj := 45) rfl rfl rfl) (rfl : _ = [_, _, _, _, _, _, _, _, _, _, _, _, _, _, _, _, _, _, _, _, _, _, _, _, _, _, _, _, _, _, _, _, _, _, _, _, _, _, _, _, _, _, _, _, _, _, _, _, _, _, _, _]) ?_
      refine s_skip (wan_f (dj := 45) rfl rfl rfl) (rfl : _ = [_, _, _, _, _, _, _, _, _, _, _, _, _, _, _, _, _, _, _, _, _, _, _, _, _, _, _, _, _, _, _, _, _, _, _, _, _, _, _, _, _, _, _, _, _, _, _, _, _, _, _, _]) ?_
      refine s_val (v := (.bool false)) rfl (r_pick rfl rfl) (rfl : _ = [_, _, _, _, _, _, _, _, _, _, _, _, _, _, _, _, _, _, _, _, _, _, _, _, _, _, _, _, _, _, _, _, _, _, _, _, _, _, _, _, _, _, _, _, _, _, _, _, _, _, _, _]) ?_
      refine s_val (v := (.bool false)) rfl (r_assign rfl) (rfl : _ = [_, _, _, _, _, _, _, _, _, _, _, _, _, _, _, _, _, _, _, _, _, _, _, _, _, _, _, _, _, _, _, _, _, _, _, _, _, _, _, _, _, _, _, _, _, _, _, _, _, _, _, _]) ?_
      refine s_nil rfl ?_
      refine x_seq ?_
      refine c_ret ?_
      refine post_ret rfl rfl ?_
      exact ⟨ret_no (fun hh => by first | exact absurd (congrArg Ev.dot hh) (by first | assumption | (subst_vars; assumption)) | exact absurd (congrArg Ev.deps hh) (by first | assumption | (subst_vars; assumption)) | exact absurd (congrArg Ev.cart hh) (by first | assumption | (subst_vars; assumption)) | exact absurd (congrArg Ev.epoch hh) (by first | assumption | (subst_vars; assumption)) | exact absurd (congrArg Ev.sku hh) (by first | assumption | (subst_vars; assumption)) | exact absurd (congrArg Ev.qty hh) (by first | assumption | (subst_vars; assumption)) | exact absurd (congrArg Ev.clears hh) (by first | assumption | (subst_vars; assumption))), hb⟩
  | false =>
    replace hb15 := bf hb15
    refine s_skip (wan_f (dj := 10) rfl rfl rfl) (rfl : _ = [_, _, _, _, _, _, _, _, _, _, _, _, _, _, _, _, _, _, _, _, _, _, _, _, _, _, _, _, _, _, _, _, _, _, _, _, _, _, _, _, _, _, _, _, _, _, _, _, _, _, _, _]) ?_
    refine s_skip (wan_f (dj := 10) rfl rfl rfl) (rfl : _ = [_, _, _, _, _, _, _, _, _, _, _, _, _, _, _, _, _, _, _, _, _, _, _, _, _, _, _, _, _, _, _, _, _, _, _, _, _, _, _, _, _, _, _, _, _, _, _, _, _, _, _, _]) ?_
    refine s_skip (wan_f (dj := 10) rfl rfl rfl) (rfl : _ = [_, _, _, _, _, _, _, _, _, _, _, _, _, _, _, _, _, _, _, _, _, _, _, _, _, _, _, _, _, _, _, _, _, _, _, _, _, _, _, _, _, _, _, _, _, _, _, _, _, _, _, _]) ?_
    refine s_skip (wan_f (dj := 10) rfl rfl rfl) (rfl : _ = [_, _, _, _, _, _, _, _, _, _, _, _, _, _, _, _, _, _, _, _, _, _, _, _, _, _, _, _, _, _, _, _, _, _, _, _, _, _, _, _, _, _, _, _, _, _, _, _, _, _, _, _]) ?_
    refine s_skip (wan_f (dj := 10) rfl rfl rfl) (rfl : _ = [_, _, _, _, _, _, _, _, _, _, _, _, _, _, _, _, _, _, _, _, _, _, _, _, _, _, _, _, _, _, _, _, _, _, _, _, _, _, _, _, _, _, _, _, _, _, _, _, _, _, _, _]) ?_
    refine s_val (v := (.bool false)) rfl (r_pick rfl rfl) (rfl : _ = [_, _, _, _, _, _, _, _, _, _, _, _, _, _, _, _, _, _, _, _, _, _, _, _, _, _, _, _, _, _, _, _, _, _, _, _, _, _, _, _, _, _, _, _, _, _, _, _, _, _, _, _]) ?_
    refine s_val (v := (.bool false)) rfl (r_move rfl) (rfl : _ = [_, _, _, _, _, _, _, _, _, _, _, _, _, _, _, _, _, _, _, _, _, _, _, _, _, _, _, _, _, _, _, _, _, _, _, _, _, _, _, _, _, _, _, _, _, _, _, _, _, _, _, _]) ?_
    refine s_skip (wan_f (dj := 17) rfl rfl rfl) (rfl : _ = [_, _, _, _, _, _, _, _, _, _, _, _, _, _, _, _, _, _, _, _, _, _, _, _, _, _, _, _, _, _, _, _, _, _, _, _, _, _, _, _, _, _, _, _, _, _, _, _, _, _, _, _]) ?_
    refine s_skip (wan_f (dj := 17) rfl rfl rfl) (rfl : _ = [_, _, _, _, _, _, _, _, _, _, _, _, _, _, _, _, _, _, _, _, _, _, _, _, _, _, _, _, _, _, _, _, _, _, _, _, _, _, _, _, _, _, _, _, _, _, _, _, _, _, _, _]) ?_
    refine s_skip (wan_f (dj := 17) rfl rfl rfl) (rfl : _ = [_, _, _, _, _, _, _, _, _, _, _, _, _, _, _, _, _, _, _, _, _, _, _, _, _, _, _, _, _, _, _, _, _, _, _, _, _, _, _, _, _, _, _, _, _, _, _, _, _, _, _, _]) ?_
    refine s_skip (wan_f (dj := 17) rfl rfl rfl) (rfl : _ = [_, _, _, _, _, _, _, _, _, _, _, _, _, _, _, _, _, _, _, _, _, _, _, _, _, _, _, _, _, _, _, _, _, _, _, _, _, _, _, _, _, _, _, _, _, _, _, _, _, _, _, _]) ?_
    refine s_skip (wan_f (dj := 17) rfl rfl rfl) (rfl : _ = [_, _, _, _, _, _, _, _, _, _, _, _, _, _, _, _, _, _, _, _, _, _, _, _, _, _, _, _, _, _, _, _, _, _, _, _, _, _, _, _, _, _, _, _, _, _, _, _, _, _, _, _]) ?_
    refine s_val (v := (.bool false)) rfl (r_pick rfl rfl) (rfl : _ = [_, _, _, _, _, _, _, _, _, _, _, _, _, _, _, _, _, _, _, _, _, _, _, _, _, _, _, _, _, _, _, _, _, _, _, _, _, _, _, _, _, _, _, _, _, _, _, _, _, _, _, _]) ?_
    refine s_val (v := (.bool false)) rfl (r_move rfl) (rfl : _ = [_, _, _, _, _, _, _, _, _, _, _, _, _, _, _, _, _, _, _, _, _, _, _, _, _, _, _, _, _, _, _, _, _, _, _, _, _, _, _, _, _, _, _, _, _, _, _, _, _, _, _, _]) ?_
    refine s_skip (wan_f (dj := 24) rfl rfl rfl) (rfl : _ = [_, _, _, _, _, _, _, _, _, _, _, _, _, _, _, _, _, _, _, _, _, _, _, _, _, _, _, _, _, _, _, _, _, _, _, _, _, _, _, _, _, _, _, _, _, _, _, _, _, _, _, _]) ?_
    refine s_skip (wan_f (dj := 24) rfl rfl rfl) (rfl : _ = [_, _, _, _, _, _, _, _, _, _, _, _, _, _, _, _, _, _, _, _, _, _, _, _, _, _, _, _, _, _, _, _, _, _, _, _, _, _, _, _, _, _, _, _, _, _, _, _, _, _, _, _]) ?_
    refine s_skip (wan_f (dj := 24) rfl rfl rfl) (rfl : _ = [_, _, _, _, _, _, _, _, _, _, _, _, _, _, _, _, _, _, _, _, _, _, _, _, _, _, _, _, _, _, _, _, _, _, _, _, _, _, _, _, _, _, _, _, _, _, _, _, _, _, _, _]) ?_
    refine s_skip (wan_f (dj := 24) rfl rfl rfl) (rfl : _ = [_, _, _, _, _, _, _, _, _, _, _, _, _, _, _, _, _, _, _, _, _, _, _, _, _, _, _, _, _, _, _, _, _, _, _, _, _, _, _, _, _, _, _, _, _, _, _, _, _, _, _, _]) ?_
    refine s_skip (wan_f (dj := 24) rfl rfl rfl) (rfl : _ = [_, _, _, _, _, _, _, _, _, _, _, _, _, _, _, _, _, _, _, _, _, _, _, _, _, _, _, _, _, _, _, _, _, _, _, _, _, _, _, _, _, _, _, _, _, _, _, _, _, _, _, _]) ?_
    refine s_val (v := (.bool false)) rfl (r_pick rfl rfl) (rfl : _ = [_, _, _, _, _, _, _, _, _, _, _, _, _, _, _, _, _, _, _, _, _, _, _, _, _, _, _, _, _, _, _, _, _, _, _, _, _, _, _, _, _, _, _, _, _, _, _, _, _, _, _, _]) ?_
    refine s_val (v := (.bool false)) rfl (r_move rfl) (rfl : _ = [_, _, _, _, _, _, _, _, _, _, _, _, _, _, _, _, _, _, _, _, _, _, _, _, _, _, _, _, _, _, _, _, _, _, _, _, _, _, _, _, _, _, _, _, _, _, _, _, _, _, _, _]) ?_
    refine s_skip (wan_f (dj := 31) rfl rfl rfl) (rfl : _ = [_, _, _, _, _, _, _, _, _, _, _, _, _, _, _, _, _, _, _, _, _, _, _, _, _, _, _, _, _, _, _, _, _, _, _, _, _, _, _, _, _, _, _, _, _, _, _, _, _, _, _, _]) ?_
    refine s_skip (wan_f (dj := 31) rfl rfl rfl) (rfl : _ = [_, _, _, _, _, _, _, _, _, _, _, _, _, _, _, _, _, _, _, _, _, _, _, _, _, _, _, _, _, _, _, _, _, _, _, _, _, _, _, _, _, _, _, _, _, _, _, _, _, _, _, _]) ?_
    refine s_skip (wan_f (dj := 31) rfl rfl rfl) (rfl : _ = [_, _, _, _, _, _, _, _, _, _, _, _, _, _, _, _, _, _, _, _, _, _, _, _, _, _, _, _, _, _, _, _, _, _, _, _, _, _, _, _, _, _, _, _, _, _, _, _, _, _, _, _]) ?_
    refine s_skip (wan_f (dj := 31) rfl rfl rfl) (rfl : _ = [_, _, _, _, _, _, _, _, _, _, _, _, _, _, _, _, _, _, _, _, _, _, _, _, _, _, _, _, _, _, _, _, _, _, _, _, _, _, _, _, _, _, _, _, _, _, _, _, _, _, _, _]) ?_
    refine s_skip (wan_f (dj := 31) rfl rfl rfl) (rfl : _ = [_, _, _, _, _, _, _, _, _, _, _, _, _, _, _, _, _, _, _, _, _, _, _, _, _, _, _, _, _, _, _, _, _, _, _, _, _, _, _, _, _, _, _, _, _, _, _, _, _, _, _, _]) ?_
    refine s_val (v := (.bool false)) rfl (r_pick rfl rfl) (rfl : _ = [_, _, _, _, _, _, _, _, _, _, _, _, _, _, _, _, _, _, _, _, _, _, _, _, _, _, _, _, _, _, _, _, _, _, _, _, _, _, _, _, _, _, _, _, _, _, _, _, _, _, _, _]) ?_
    refine s_val (v := (.bool false)) rfl (r_move rfl) (rfl : _ = [_, _, _, _, _, _, _, _, _, _, _, _, _, _, _, _, _, _, _, _, _, _, _, _, _, _, _, _, _, _, _, _, _, _, _, _, _, _, _, _, _, _, _, _, _, _, _, _, _, _, _, _]) ?_
    refine s_skip (wan_f (dj := 38) rfl rfl rfl) (rfl : _ = [_, _, _, _, _, _, _, _, _, _, _, _, _, _, _, _, _, _, _, _, _, _, _, _, _, _, _, _, _, _, _, _, _, _, _, _, _, _, _, _, _, _, _, _, _, _, _, _, _, _, _, _]) ?_
    refine s_skip (wan_f (dj := 38) rfl rfl rfl) (rfl : _ = [_, _, _, _, _, _, _, _, _, _, _, _, _, _, _, _, _, _, _, _, _, _, _, _, _, _, _, _, _, _, _, _, _, _, _, _, _, _, _, _, _, _, _, _, _, _, _, _, _, _, _, _]) ?_
    refine s_skip (wan_f (dj := 38) rfl rfl rfl) (rfl : _ = [_, _, _, _, _, _, _, _, _, _, _, _, _, _, _, _, _, _, _, _, _, _, _, _, _, _, _, _, _, _, _, _, _, _, _, _, _, _, _, _, _, _, _, _, _, _, _, _, _, _, _, _]) ?_
    refine s_skip (wan_f (dj := 38) rfl rfl rfl) (rfl : _ = [_, _, _, _, _, _, _, _, _, _, _, _, _, _, _, _, _, _, _, _, _, _, _, _, _, _, _, _, _, _, _, _, _, _, _, _, _, _, _, _, _, _, _, _, _, _, _, _, _, _, _, _]) ?_
    refine s_skip (wan_f (dj := 38) rfl rfl rfl) (rfl : _ = [_, _, _, _, _, _, _, _, _, _, _, _, _, _, _, _, _, _, _, _, _, _, _, _, _, _, _, _, _, _, _, _, _, _, _, _, _, _, _, _, _, _, _, _, _, _, _, _, _, _, _, _]) ?_
    refine s_val (v := (.bool false)) rfl (r_pick rfl rfl) (rfl : _ = [_, _, _, _, _, _, _, _, _, _, _, _, _, _, _, _, _, _, _, _, _, _, _, _, _, _, _, _, _, _, _, _, _, _, _, _, _, _, _, _, _, _, _, _, _, _, _, _, _, _, _, _]) ?_
    refine s_val (v := (.bool false)) rfl (r_move rfl) (rfl : _ = [_, _, _, _, _, _, _, _, _, _, _, _, _, _, _, _, _, _, _, _, _, _, _, _, _, _, _, _, _, _, _, _, _, _, _, _, _, _, _, _, _, _, _, _, _, _, _, _, _, _, _, _]) ?_
    refine s_skip (wan_f (dj := 45) rfl rfl rfl) (rfl : _ = [_, _, _, _, _, _, _, _, _, _, _, _, _, _, _, _, _, _, _, _, _, _, _, _, _, _, _, _, _, _, _, _, _, _, _, _, _, _, _, _, _, _, _, _, _, _, _, _, _, _, _, _]) ?_
    refine s_skip (wan_f (dj := 45) rfl rfl rfl) (rfl : _ = [_, _, _, _, _, _, _, _, _, _, _, _, _, _, _, _, _, _, _, _, _, _, _, _, _, _, _, _, _, _, _, _, _, _, _, _, _, _, _, _, _, _, _, _, _, _, _, _, _, _, _, _]) ?_
    refine s_skip (wan_f (dj := 45) rfl rfl rfl) (rfl : _ = [_, _, _, _, _, _, _, _, _, _, _, _, _, _, _, _, _, _, _, _, _, _, _, _, _, _, _, _, _, _, _, _, _, _, _, _, _, _, _, _, _, _, _, _, _, _, _, _, _, _, _, _]) ?_
    refine s_skip (wan_f (dj := 45) rfl rfl rfl) (rfl : _ = [_, _, _, _, _, _, _, _, _, _, _, _, _, _, _, _, _, _, _, _, _, _, _, _, _, _, _, _, _, _, _, _, _, _, _, _, _, _, _, _, _, _, _, _, _, _, _, _, _, _, _, _]) ?_
    refine s_skip (wan_f (dj := 45) rfl rfl rfl) (rfl : _ = [_, _, _, _, _, _, _, _, _, _, _, _, _, _, _, _, _, _, _, _, _, _, _, _, _, _, _, _, _, _, _, _, _, _, _, _, _, _, _, _, _, _, _, _, _, _, _, _, _, _, _, _]) ?_
    refine s_val (v := (.bool false)) rfl (r_pick rfl rfl) (rfl : _ = [_, _, _, _, _, _, _, _, _, _, _, _, _, _, _, _, _, _, _, _, _, _, _, _, _, _, _, _, _, _, _, _, _, _, _, _, _, _, _, _, _, _, _, _, _, _, _, _, _, _, _, _]) ?_
    refine s_val (v := (.bool false)) rfl (r_assign rfl) (rfl : _ = [_, _, _, _, _, _, _, _, _, _, _, _, _, _, _, _, _, _, _, _, _, _, _, _, _, _, _, _, _, _, _, _, _, _, _, _, _, _, _, _, _, _, _, _, _, _, _, _, _, _, _, _]) ?_
    refine s_nil rfl ?_
    refine x_seq ?_
    refine c_ret ?_
    refine post_ret rfl rfl ?_
    exact ⟨ret_no (fun hh => by first | exact absurd (congrArg Ev.dot hh) (by first | assumption | (subst_vars; assumption)) | exact absurd (congrArg Ev.deps hh) (by first | assumption | (subst_vars; assumption)) | exact absurd (congrArg Ev.cart hh) (by first | assumption | (subst_vars; assumption)) | exact absurd (congrArg Ev.epoch hh) (by first | assumption | (subst_vars; assumption)) | exact absurd (congrArg Ev.sku hh) (by first | assumption | (subst_vars; assumption)) | exact absurd (congrArg Ev.qty hh) (by first | assumption | (subst_vars; assumption)) | exact absurd (congrArg Ev.clears hh) (by first | assumption | (subst_vars; assumption))), hb⟩

theorem ofq_c {ok : Nat → Prop} {w : World} {v : Value} {l : List Ln} (hS : Sl kLn ok w v l) (sku : ByteArray) :
    CallsV Try.prog 22 #[v, (.string sku)] w (fun r w' => r = .int .i64 (qtyL l sku) ∧ Bel w w') := by
  have hb := Bel.refl w
  replace hS : Sl kLn (Rg w.heap.size 0 0) w v l := hS.weak (by decide) (fun b _ hl => .inl hl)
  have hSlim := lim_le hS.lim
  refine callsV_of Try.func22 (m := 22) Try.ntmps22 rfl rfl (l := [v, .string sku, undef, undef, undef, undef, undef, undef, undef, undef, undef, undef, undef, undef, undef, undef, undef, undef, undef, undef, undef, undef, undef, undef]) rfl ?_
  refine c_seq ?_
  refine c_region ?_
  refine s_val (v := (.int .i64 0)) rfl (r_assign rfl) (rfl : _ = [_, _, _, _, _, _, _, _, _, _, _, _, _, _, _, _, _, _, _, _, _, _, _, _]) ?_
  refine s_nil rfl ?_
  refine x_seq ?_
  refine c_seq ?_
  refine c_seq ?_
  refine c_region ?_
  refine s_val (v := (.int .i64 0)) rfl (r_assign rfl) (rfl : _ = [_, _, _, _, _, _, _, _, _, _, _, _, _, _, _, _, _, _, _, _, _, _, _, _]) ?_
  refine s_nil rfl ?_
  refine x_seq ?_
  refine c_block ?_
  refine c_loop (fun kk_ fr_ wr1 => ∃ (i : Nat) (jk2 : Nat → Value), kk_ = l.length - i ∧ fr_ = [v, .string sku, jk2 0, jk2 1, jk2 2, .int .i64 (i : Int), jk2 3, jk2 4, jk2 5, jk2 6, jk2 7, jk2 8, jk2 9, jk2 10, jk2 11, jk2 12, jk2 13, jk2 14, jk2 15, jk2 16, jk2 17, jk2 18, jk2 19, jk2 20] ∧ (i ≤ l.length) ∧ (qtyL l sku = qtyL (l.drop i) sku) ∧ Bel w wr1 ∧ w.heap.size ≤ wr1.heap.size) _ ⟨0, (fun n_ => ([undef, undef, .int .i64 0, undef, undef, undef, undef, undef, undef, undef, undef, undef, undef, undef, undef, undef, undef, undef, undef, undef, undef] : List Value).getD n_ undef), rfl, rfl, (Nat.zero_le _), rfl, hb, (Nat.le_refl _)⟩ ?_
  rintro _ _ wr1 ⟨i, jk2, rfl, rfl, hi, ho, hb3, hws4⟩
  have hs5 := hb3.size
  refine c_seq ?_
  refine c_seq ?_
  refine c_region ?_
  refine s_val (v := (.int .i64 (i : Int))) rfl (r_move rfl) (rfl : _ = [_, _, _, _, _, _, _, _, _, _, _, _, _, _, _, _, _, _, _, _, _, _, _, _]) ?_
  refine s_val (v := v) rfl (r_move rfl) (rfl : _ = [_, _, _, _, _, _, _, _, _, _, _, _, _, _, _, _, _, _, _, _, _, _, _, _]) ?_
  refine s_val (v := (.int .i64 (l.length : Int))) rfl ((hS.at_ hb3).len Try.underlying42 rfl _) (rfl : _ = [_, _, _, _, _, _, _, _, _, _, _, _, _, _, _, _, _, _, _, _, _, _, _, _]) ?_
  refine s_bool (p := ((i : Int) < (l.length : Int) : Prop)) rfl (r_lss rfl rfl) decide_eq_true_iff ?_
  intro b6 hb6
  refine norm (rfl : _ = [_, _, _, _, _, _, _, _, _, _, _, _, _, _, _, _, _, _, _, _, _, _, _, _]) ?_
  refine s_nil rfl ?_
  refine x_seq ?_
  cases b6 with
  | true =>
    replace hb6 := bt hb6
    refine c_cond rfl (fun _ => ?_) (fun hh => by cases hh)
    refine c_skip ?_
    refine x_seq ?_
    refine c_seq ?_
    refine c_block ?_
    refine c_seq ?_
    refine c_region ?_
    refine s_val (v := v) rfl (r_move rfl) (rfl : _ = [_, _, _, _, _, _, _, _, _, _, _, _, _, _, _, _, _, _, _, _, _, _, _, _]) ?_
    refine s_val (v := (.int .i64 (i : Int))) rfl (r_move rfl) (rfl : _ = [_, _, _, _, _, _, _, _, _, _, _, _, _, _, _, _, _, _, _, _, _, _, _, _]) ?_
    obtain ⟨e7, a8, o9, c10, he11, hc12, hr13, hk14, hi15⟩ := (hS.at_ hb3).idx (j := (i : Int)) (by first | omega | decide) (by first | omega | simp)
    rw [Int.toNat_natCast] at he11
    obtain rfl := kLn_cells.1 hc12
    refine s_val rfl (hi15 _ _ _ _ _ _ _ (by kernel_rfl) rfl rfl) (rfl : _ = [_, _, _, _, _, _, _, _, _, _, _, _, _, _, _, _, _, _, _, _, _, _, _, _]) ?_
    refine s_val (v := (.pointer (some ⟨a8, o9 + 0, none⟩))) rfl (r_field (k := 0) (o := o9) (by kernel_rfl) rfl) (rfl : _ = [_, _, _, _, _, _, _, _, _, _, _, _, _, _, _, _, _, _, _, _, _, _, _, _]) ?_
    refine s_val (v := (.string e7.sku)) rfl (r_load rfl (Ld.one Try.underlying9 rfl (hr13 0 _ rfl))) (rfl : _ = [_, _, _, _, _, _, _, _, _, _, _, _, _, _, _, _, _, _, _, _, _, _, _, _]) ?_
    refine s_val (v := (.string sku)) rfl (r_move rfl) (rfl : _ = [_, _, _, _, _, _, _, _, _, _, _, _, _, _, _, _, _, _, _, _, _, _, _, _]) ?_
    refine s_bool (p := (e7.sku = sku : Prop)) rfl (r_eqs rfl rfl) eqs_iff ?_
    intro b16 hb16
    refine norm (rfl : _ = [_, _, _, _, _, _, _, _, _, _, _, _, _, _, _, _, _, _, _, _, _, _, _, _]) ?_
    refine s_nil rfl ?_
    refine x_seq ?_
    cases b16 with
    | true =>
      replace hb16 := bt hb16
      refine c_cond rfl (fun _ => ?_) (fun hh => by cases hh)
      refine c_seq ?_
      refine c_region ?_
      refine s_val (v := v) rfl (r_move rfl) (rfl : _ = [_, _, _, _, _, _, _, _, _, _, _, _, _, _, _, _, _, _, _, _, _, _, _, _]) ?_
      refine s_val (v := (.int .i64 (i : Int))) rfl (r_move rfl) (rfl : _ = [_, _, _, _, _, _, _, _, _, _, _, _, _, _, _, _, _, _, _, _, _, _, _, _]) ?_
      obtain ⟨e17, a18, o19, c20, he21, hc22, hr23, hk24, hi25⟩ := (hS.at_ hb3).idx (j := (i : Int)) (by first | omega | decide) (by first | omega | simp)
      rw [Int.toNat_natCast] at he21
      rw [he11] at he21
      injection he21 with he21
      subst he21
      obtain rfl := kLn_cells.1 hc22
      refine s_val rfl (hi25 _ _ _ _ _ _ _ (by kernel_rfl) rfl rfl) (rfl : _ = [_, _, _, _, _, _, _, _, _, _, _, _, _, _, _, _, _, _, _, _, _, _, _, _]) ?_
      refine s_val (v := (.pointer (some ⟨a18, o19 + 1, none⟩))) rfl (r_field (k := 1) (o := o19) (by kernel_rfl) rfl) (rfl : _ = [_, _, _, _, _, _, _, _, _, _, _, _, _, _, _, _, _, _, _, _, _, _, _, _]) ?_
      refine s_val (v := (.int .i64 e7.qty)) rfl (r_load rfl (Ld.one Try.underlying3 rfl (hr23 1 _ rfl))) (rfl : _ = [_, _, _, _, _, _, _, _, _, _, _, _, _, _, _, _, _, _, _, _, _, _, _, _]) ?_
      refine s_val (v := (.int .i64 e7.qty)) rfl (r_assign rfl) (rfl : _ = [_, _, _, _, _, _, _, _, _, _, _, _, _, _, _, _, _, _, _, _, _, _, _, _]) ?_
      refine s_nil rfl ?_
      refine x_seq ?_
      refine c_ret ?_
      refine x_block_ret ?_
      refine x_then_ret ?_
      refine x_then_ret ?_
      refine x_block_ret ?_
      refine x_then_ret ?_
      refine post_ret rfl rfl ?_
      refine ⟨int_eq ?_, hb3⟩
      rw [ho, drop_cons he11, qtyL, if_pos (by assumption)]
    | false =>
      replace hb16 := bf hb16
      refine c_cond rfl (fun hh => by cases hh) (fun _ => ?_)
      refine c_skip ?_
      refine x_block ?_
      refine x_seq ?_
      refine c_region ?_
      refine s_val (v := (.int .i64 (i : Int))) rfl (r_move rfl) (rfl : _ = [_, _, _, _, _, _, _, _, _, _, _, _, _, _, _, _, _, _, _, _, _, _, _, _]) ?_
      refine s_val (v := (.int .i64 ((i : Int) + 1))) rfl (r_add (c := (i : Int) + 1) rfl rfl (i64_in (by omega) (by omega))) (rfl : _ = [_, _, _, _, _, _, _, _, _, _, _, _, _, _, _, _, _, _, _, _, _, _, _, _]) ?_
      refine s_val (v := (.int .i64 ((i : Int) + 1))) rfl (r_assign rfl) (rfl : _ = [_, _, _, _, _, _, _, _, _, _, _, _, _, _, _, _, _, _, _, _, _, _, _, _]) ?_
      refine s_nil rfl ?_
      refine x_then ?_
      refine ⟨_, _, ?_, rfl, (i + 1), (fun n_ => ([jk2 0, jk2 1, jk2 2, .int .i64 (i : Int), v, .int .i64 (l.length : Int), .bool true, .int .i64 (i : Int), .int .i64 ((i : Int) + 1), v, .int .i64 (i : Int), .pointer (some ⟨a8, o9, none⟩), .pointer (some ⟨a8, o9 + 0, none⟩), .string e7.sku, .string sku, .bool false, jk2 16, jk2 17, jk2 18, jk2 19, jk2 20] : List Value).getD n_ undef), rfl, rfl, (by omega), (by rw [ho, drop_cons he11, qtyL, if_neg (by assumption)]), hb3, (by omega)⟩
      omega
  | false =>
    replace hb6 := bf hb6
    refine c_cond rfl (fun hh => by cases hh) (fun _ => ?_)
    refine c_exit ?_
    refine x_then_exit ?_
    refine x_then_exit ?_
    refine x_block_same ?_
    refine x_seq ?_
    refine c_seq ?_
    refine c_region ?_
    refine s_val (v := (.int .i64 0)) rfl (r_assign rfl) (rfl : _ = [_, _, _, _, _, _, _, _, _, _, _, _, _, _, _, _, _, _, _, _, _, _, _, _]) ?_
    refine s_nil rfl ?_
    refine x_seq ?_
    refine c_ret ?_
    refine post_ret rfl rfl ?_
    refine ⟨int_eq ?_, hb3⟩
    rw [ho, List.drop_eq_nil_of_le (by omega)]; rfl

theorem right_c {ok : Nat → Prop} {w : World} {v : Value} {l : List Ev} (hS : Sl kEv ok w v l) :
    CallsV Try.prog 20 #[v] w (fun r w' => r = .bool (toB (rightL l)) ∧ Bel w w') := by
  have hb := Bel.refl w
  replace hS : Sl kEv (Rg w.heap.size 0 0) w v l := hS.weak (by decide) (fun b _ hl => .inl hl)
  have hSlim := lim_le hS.lim
  refine callsV_of Try.func20 (m := 52) Try.ntmps20 rfl rfl (l := [v, undef, undef, undef, undef, undef, undef, undef, undef, undef, undef, undef, undef, undef, undef, undef, undef, undef, undef, undef, undef, undef, undef, undef, undef, undef, undef, undef, undef, undef, undef, undef, undef, undef, undef, undef, undef, undef, undef, undef, undef, undef, undef, undef, undef, undef, undef, undef, undef, undef, undef, undef, undef]) rfl ?_
  refine c_seq ?_
  refine c_region ?_
  refine s_val (v := (.bool false)) rfl (r_assign rfl) (rfl : _ = [_, _, _, _, _, _, _, _, _, _, _, _, _, _, _, _, _, _, _, _, _, _, _, _, _, _, _, _, _, _, _, _, _, _, _, _, _, _, _, _, _, _, _, _, _, _, _, _, _, _, _, _, _]) ?_
  refine s_nil rfl ?_
  refine x_seq ?_
  refine c_seq ?_
  refine c_seq ?_
  refine c_region ?_
  refine s_val (v := (.int .i64 0)) rfl (r_assign rfl) (rfl : _ = [_, _, _, _, _, _, _, _, _, _, _, _, _, _, _, _, _, _, _, _, _, _, _, _, _, _, _, _, _, _, _, _, _, _, _, _, _, _, _, _, _, _, _, _, _, _, _, _, _, _, _, _, _]) ?_
  refine s_nil rfl ?_
  refine x_seq ?_
  refine c_block ?_
  refine c_loop (fun kk_ fr_ wr1 => ∃ (i : Nat) (jk2 : Nat → Value), kk_ = l.length - i ∧ fr_ = [v, jk2 0, jk2 1, .int .i64 (i : Int), jk2 2, jk2 3, jk2 4, jk2 5, jk2 6, jk2 7, jk2 8, jk2 9, jk2 10, jk2 11, jk2 12, jk2 13, jk2 14, jk2 15, jk2 16, jk2 17, jk2 18, jk2 19, jk2 20, jk2 21, jk2 22, jk2 23, jk2 24, jk2 25, jk2 26, jk2 27, jk2 28, jk2 29, jk2 30, jk2 31, jk2 32, jk2 33, jk2 34, jk2 35, jk2 36, jk2 37, jk2 38, jk2 39, jk2 40, jk2 41, jk2 42, jk2 43, jk2 44, jk2 45, jk2 46, jk2 47, jk2 48, jk2 49, jk2 50] ∧ (i ≤ l.length) ∧ (∀ j, j < i → rightAt l j) ∧ Bel w wr1 ∧ w.heap.size ≤ wr1.heap.size) _ ⟨0, (fun n_ => ([undef, .bool false, undef, undef, undef, undef, undef, undef, undef, undef, undef, undef, undef, undef, undef, undef, undef, undef, undef, undef, undef, undef, undef, undef, undef, undef, undef, undef, undef, undef, undef, undef, undef, undef, undef, undef, undef, undef, undef, undef, undef, undef, undef, undef, undef, undef, undef, undef, undef, undef, undef] : List Value).getD n_ undef), rfl, rfl, (Nat.zero_le _), (fun j hj => absurd hj (Nat.not_lt_zero _)), hb, (Nat.le_refl _)⟩ ?_
  rintro _ _ wr1 ⟨i, jk2, rfl, rfl, hi, hall, hb3, hws4⟩
  have hs5 := hb3.size
  refine c_seq ?_
  refine c_seq ?_
  refine c_region ?_
  refine s_val (v := (.int .i64 (i : Int))) rfl (r_move rfl) (rfl : _ = [_, _, _, _, _, _, _, _, _, _, _, _, _, _, _, _, _, _, _, _, _, _, _, _, _, _, _, _, _, _, _, _, _, _, _, _, _, _, _, _, _, _, _, _, _, _, _, _, _, _, _, _, _]) ?_
  refine s_val (v := v) rfl (r_move rfl) (rfl : _ = [_, _, _, _, _, _, _, _, _, _, _, _, _, _, _, _, _, _, _, _, _, _, _, _, _, _, _, _, _, _, _, _, _, _, _, _, _, _, _, _, _, _, _, _, _, _, _, _, _, _, _, _, _]) ?_
  refine s_val (v := (.int .i64 (l.length : Int))) rfl ((hS.at_ hb3).len Try.underlying34 rfl _) (rfl : _ = [_, _, _, _, _, _, _, _, _, _, _, _, _, _, _, _, _, _, _, _, _, _, _, _, _, _, _, _, _, _, _, _, _, _, _, _, _, _, _, _, _, _, _, _, _, _, _, _, _, _, _, _, _]) ?_
  refine s_bool (p := ((i : Int) < (l.length : Int) : Prop)) rfl (r_lss rfl rfl) decide_eq_true_iff ?_
  intro b6 hb6
  refine norm (rfl : _ = [_, _, _, _, _, _, _, _, _, _, _, _, _, _, _, _, _, _, _, _, _, _, _, _, _, _, _, _, _, _, _, _, _, _, _, _, _, _, _, _, _, _, _, _, _, _, _, _, _, _, _, _, _]) ?_
  refine s_nil rfl ?_
  refine x_seq ?_
  cases b6 with
  | true =>
    replace hb6 := bt hb6
    refine c_cond rfl (fun _ => ?_) (fun hh => by cases hh)
    refine c_skip ?_
    refine x_seq ?_
    refine c_seq ?_
    refine c_block ?_
    refine c_seq ?_
    refine c_seq ?_
    refine c_region ?_
    refine s_val (v := v) rfl (r_move rfl) (rfl : _ = [_, _, _, _, _, _, _, _, _, _, _, _, _, _, _, _, _, _, _, _, _, _, _, _, _, _, _, _, _, _, _, _, _, _, _, _, _, _, _, _, _, _, _, _, _, _, _, _, _, _, _, _, _]) ?_
    refine s_val (v := (.int .i64 (i : Int))) rfl (r_move rfl) (rfl : _ = [_, _, _, _, _, _, _, _, _, _, _, _, _, _, _, _, _, _, _, _, _, _, _, _, _, _, _, _, _, _, _, _, _, _, _, _, _, _, _, _, _, _, _, _, _, _, _, _, _, _, _, _, _]) ?_
    obtain ⟨e7, a8, o9, c10, he11, hc12, hr13, hk14, hi15⟩ := (hS.at_ hb3).idx (j := (i : Int)) (by first | omega | decide) (by first | omega | simp)
    rw [Int.toNat_natCast] at he11
    obtain ⟨d16, rfl, hd17⟩ := kEv_cells.1 hc12
    refine s_val rfl (hi15 _ _ _ _ _ _ _ (by kernel_rfl) rfl rfl) (rfl : _ = [_, _, _, _, _, _, _, _, _, _, _, _, _, _, _, _, _, _, _, _, _, _, _, _, _, _, _, _, _, _, _, _, _, _, _, _, _, _, _, _, _, _, _, _, _, _, _, _, _, _, _, _, _]) ?_
    refine s_val (v := (.pointer (some ⟨a8, o9 + 6, none⟩))) rfl (r_field (k := 6) (o := o9) (by kernel_rfl) rfl) (rfl : _ = [_, _, _, _, _, _, _, _, _, _, _, _, _, _, _, _, _, _, _, _, _, _, _, _, _, _, _, _, _, _, _, _, _, _, _, _, _, _, _, _, _, _, _, _, _, _, _, _, _, _, _, _, _]) ?_
    refine s_val (v := (.int .i64 e7.qty)) rfl (r_load rfl (Ld.one Try.underlying3 rfl (hr13 6 _ rfl))) (rfl : _ = [_, _, _, _, _, _, _, _, _, _, _, _, _, _, _, _, _, _, _, _, _, _, _, _, _, _, _, _, _, _, _, _, _, _, _, _, _, _, _, _, _, _, _, _, _, _, _, _, _, _, _, _, _]) ?_
    refine s_bool (p := (e7.qty < 0 : Prop)) rfl (r_lss rfl rfl) decide_eq_true_iff ?_
    intro b18 hb18
    refine norm (rfl : _ = [_, _, _, _, _, _, _, _, _, _, _, _, _, _, _, _, _, _, _, _, _, _, _, _, _, _, _, _, _, _, _, _, _, _, _, _, _, _, _, _, _, _, _, _, _, _, _, _, _, _, _, _, _]) ?_
    refine s_val (v := (.bool b18)) rfl (r_move rfl) (rfl : _ = [_, _, _, _, _, _, _, _, _, _, _, _, _, _, _, _, _, _, _, _, _, _, _, _, _, _, _, _, _, _, _, _, _, _, _, _, _, _, _, _, _, _, _, _, _, _, _, _, _, _, _, _, _]) ?_
    cases b18 with
    | true =>
      replace hb18 := bt hb18
      refine s_skip (wan_f (dj := 17) rfl rfl rfl) (rfl : _ = [_, _, _, _, _, _, _, _, _, _, _, _, _, _, _, _, _, _, _, _, _, _, _, _, _, _, _, _, _, _, _, _, _, _, _, _, _, _, _, _, _, _, _, _, _, _, _, _, _, _, _, _, _]) ?_
      refine s_skip (wan_f (dj := 17) rfl rfl rfl) (rfl : _ = [_, _, _, _, _, _, _, _, _, _, _, _, _, _, _, _, _, _, _, _, _, _, _, _, _, _, _, _, _, _, _, _, _, _, _, _, _, _, _, _, _, _, _, _, _, _, _, _, _, _, _, _, _]) ?_
      refine s_skip (wan_f (dj := 17) rfl rfl rfl) (rfl : _ = [_, _, _, _, _, _, _, _, _, _, _, _, _, _, _, _, _, _, _, _, _, _, _, _, _, _, _, _, _, _, _, _, _, _, _, _, _, _, _, _, _, _, _, _, _, _, _, _, _, _, _, _, _]) ?_
      refine s_skip (wan_f (dj := 17) rfl rfl rfl) (rfl : _ = [_, _, _, _, _, _, _, _, _, _, _, _, _, _, _, _, _, _, _, _, _, _, _, _, _, _, _, _, _, _, _, _, _, _, _, _, _, _, _, _, _, _, _, _, _, _, _, _, _, _, _, _, _]) ?_
      refine s_skip (wan_f (dj := 17) rfl rfl rfl) (rfl : _ = [_, _, _, _, _, _, _, _, _, _, _, _, _, _, _, _, _, _, _, _, _, _, _, _, _, _, _, _, _, _, _, _, _, _, _, _, _, _, _, _, _, _, _, _, _, _, _, _, _, _, _, _, _]) ?_
      refine s_skip (wan_f (dj := 17) rfl rfl rfl) (rfl : _ = [_, _, _, _, _, _, _, _, _, _, _, _, _, _, _, _, _, _, _, _, _, _, _, _, _, _, _, _, _, _, _, _, _, _, _, _, _, _, _, _, _, _, _, _, _, _, _, _, _, _, _, _, _]) ?_
      refine s_val (v := (.bool true)) rfl (r_pick rfl rfl) (rfl : _ = [_, _, _, _, _, _, _, _, _, _, _, _, _, _, _, _, _, _, _, _, _, _, _, _, _, _, _, _, _, _, _, _, _, _, _, _, _, _, _, _, _, _, _, _, _, _, _, _, _, _, _, _, _]) ?_
      refine s_nil rfl ?_
      refine x_seq ?_
      refine c_cond rfl (fun _ => ?_) (fun hh => by cases hh)
      refine c_seq ?_
      refine c_region ?_
      refine s_val (v := (.bool false)) rfl (r_assign rfl) (rfl : _ = [_, _, _, _, _, _, _, _, _, _, _, _, _, _, _, _, _, _, _, _, _, _, _, _, _, _, _, _, _, _, _, _, _, _, _, _, _, _, _, _, _, _, _, _, _, _, _, _, _, _, _, _, _]) ?_
      refine s_nil rfl ?_
      refine x_seq ?_
      refine c_ret ?_
      refine x_then_ret ?_
      refine x_block_ret ?_
      refine x_then_ret ?_
      refine x_then_ret ?_
      refine x_block_ret ?_
      refine x_then_ret ?_
      refine post_ret rfl rfl ?_
      exact ⟨ret_no (fun hh => by have := (hh i (by omega) e7 he11).1; omega), hb3⟩
    | false =>
      replace hb18 := bf hb18
      refine s_val (v := v) (wan_t (dj := 17) rfl rfl) (r_move rfl) (rfl : _ = [_, _, _, _, _, _, _, _, _, _, _, _, _, _, _, _, _, _, _, _, _, _, _, _, _, _, _, _, _, _, _, _, _, _, _, _, _, _, _, _, _, _, _, _, _, _, _, _, _, _, _, _, _]) ?_
      refine s_val (v := (.int .i64 (i : Int))) (wan_t (dj := 17) rfl rfl) (r_move rfl) (rfl : _ = [_, _, _, _, _, _, _, _, _, _, _, _, _, _, _, _, _, _, _, _, _, _, _, _, _, _, _, _, _, _, _, _, _, _, _, _, _, _, _, _, _, _, _, _, _, _, _, _, _, _, _, _, _]) ?_
      obtain ⟨e19, a20, o21, c22, he23, hc24, hr25, hk26, hi27⟩ := (hS.at_ hb3).idx (j := (i : Int)) (by first | omega | decide) (by first | omega | simp)
      rw [Int.toNat_natCast] at he23
      rw [he11] at he23
      injection he23 with he23
      subst he23
      obtain ⟨d28, rfl, hd29⟩ := kEv_cells.1 hc24
      refine s_val (wan_t (dj := 17) rfl rfl) (hi27 _ _ _ _ _ _ _ (by kernel_rfl) rfl rfl) (rfl : _ = [_, _, _, _, _, _, _, _, _, _, _, _, _, _, _, _, _, _, _, _, _, _, _, _, _, _, _, _, _, _, _, _, _, _, _, _, _, _, _, _, _, _, _, _, _, _, _, _, _, _, _, _, _]) ?_
      refine s_val (v := (.pointer (some ⟨a20, o21 + 6, none⟩))) (wan_t (dj := 17) rfl rfl) (r_field (k := 6) (o := o21) (by kernel_rfl) rfl) (rfl : _ = [_, _, _, _, _, _, _, _, _, _, _, _, _, _, _, _, _, _, _, _, _, _, _, _, _, _, _, _, _, _, _, _, _, _, _, _, _, _, _, _, _, _, _, _, _, _, _, _, _, _, _, _, _]) ?_
      refine s_val (v := (.int .i64 e7.qty)) (wan_t (dj := 17) rfl rfl) (r_load rfl (Ld.one Try.underlying3 rfl (hr25 6 _ rfl))) (rfl : _ = [_, _, _, _, _, _, _, _, _, _, _, _, _, _, _, _, _, _, _, _, _, _, _, _, _, _, _, _, _, _, _, _, _, _, _, _, _, _, _, _, _, _, _, _, _, _, _, _, _, _, _, _, _]) ?_
      refine s_bool (p := (1000 < e7.qty : Prop)) (wan_t (dj := 17) rfl rfl) (r_gtr rfl rfl) decide_eq_true_iff ?_
      intro b30 hb30
      refine norm (rfl : _ = [_, _, _, _, _, _, _, _, _, _, _, _, _, _, _, _, _, _, _, _, _, _, _, _, _, _, _, _, _, _, _, _, _, _, _, _, _, _, _, _, _, _, _, _, _, _, _, _, _, _, _, _, _]) ?_
      refine s_val (v := (.bool b30)) rfl (r_pick rfl rfl) (rfl : _ = [_, _, _, _, _, _, _, _, _, _, _, _, _, _, _, _, _, _, _, _, _, _, _, _, _, _, _, _, _, _, _, _, _, _, _, _, _, _, _, _, _, _, _, _, _, _, _, _, _, _, _, _, _]) ?_
      refine s_nil rfl ?_
      refine x_seq ?_
      cases b30 with
      | true =>
        replace hb30 := bt hb30
        refine c_cond rfl (fun _ => ?_) (fun hh => by cases hh)
        refine c_seq ?_
        refine c_region ?_
        refine s_val (v := (.bool false)) rfl (r_assign rfl) (rfl : _ = [_, _, _, _, _, _, _, _, _, _, _, _, _, _, _, _, _, _, _, _, _, _, _, _, _, _, _, _, _, _, _, _, _, _, _, _, _, _, _, _, _, _, _, _, _, _, _, _, _, _, _, _, _]) ?_
        refine s_nil rfl ?_
        refine x_seq ?_
        refine c_ret ?_
        refine x_then_ret ?_
        refine x_block_ret ?_
        refine x_then_ret ?_
        refine x_then_ret ?_
        refine x_block_ret ?_
        refine x_then_ret ?_
        refine post_ret rfl rfl ?_
        exact ⟨ret_no (fun hh => by have := (hh i (by omega) e7 he11).1; omega), hb3⟩
      | false =>
        replace hb30 := bf hb30
        refine c_cond rfl (fun hh => by cases hh) (fun _ => ?_)
        refine c_skip ?_
        refine x_seq ?_
        refine c_seq ?_
        refine c_region ?_
        refine s_val (v := (.int .i64 0)) rfl (r_assign rfl) (rfl : _ = [_, _, _, _, _, _, _, _, _, _, _, _, _, _, _, _, _, _, _, _, _, _, _, _, _, _, _, _, _, _, _, _, _, _, _, _, _, _, _, _, _, _, _, _, _, _, _, _, _, _, _, _, _]) ?_
        refine s_nil rfl ?_
        refine x_seq ?_
        refine c_block ?_
        refine c_loop (fun kk_ fr_ wr31 => ∃ (k : Nat) (jk32 : Nat → Value), kk_ = i - k ∧ fr_ = [v, jk32 0, jk32 1, .int .i64 (i : Int), .int .i64 (k : Int), .int .i64 (i : Int), v, .int .i64 (l.length : Int), .bool true, jk2 7, jk2 8, v, .int .i64 (i : Int), .pointer (some ⟨a8, o9, none⟩), .pointer (some ⟨a8, o9 + 6, none⟩), .int .i64 e7.qty, .bool false, .bool false, v, .int .i64 (i : Int), .pointer (some ⟨a20, o21, none⟩), .pointer (some ⟨a20, o21 + 6, none⟩), .int .i64 e7.qty, .bool false, .bool false, jk32 2, jk32 3, jk32 4, jk32 5, jk32 6, jk32 7, jk32 8, jk32 9, jk32 10, jk32 11, jk32 12, jk32 13, jk32 14, jk32 15, jk32 16, jk32 17, jk32 18, jk32 19, jk32 20, jk32 21, jk32 22, jk32 23, jk32 24, jk32 25, jk32 26, jk32 27, jk32 28, jk32 29] ∧ (k ≤ i) ∧ (∀ j, j < k → ∀ x, l[j]? = some x → x.dot = e7.dot → x = e7) ∧ Bel w wr31 ∧ wr1.heap.size ≤ wr31.heap.size) _ ⟨0, (fun n_ => ([jk2 0, jk2 1, jk2 23, jk2 24, jk2 25, jk2 26, jk2 27, jk2 28, jk2 29, jk2 30, jk2 31, jk2 32, jk2 33, jk2 34, jk2 35, jk2 36, jk2 37, jk2 38, jk2 39, jk2 40, jk2 41, jk2 42, jk2 43, jk2 44, jk2 45, jk2 46, jk2 47, jk2 48, jk2 49, jk2 50] : List Value).getD n_ undef), rfl, rfl, (Nat.zero_le _), (fun j hj => absurd hj (Nat.not_lt_zero _)), hb3, (Nat.le_refl _)⟩ ?_
        rintro _ _ wr31 ⟨k, jk32, rfl, rfl, hk, hin, hb33, hws34⟩
        have hs35 := hb33.size
        refine c_seq ?_
        refine c_seq ?_
        refine c_region ?_
        refine s_val (v := (.int .i64 (k : Int))) rfl (r_move rfl) (rfl : _ = [_, _, _, _, _, _, _, _, _, _, _, _, _, _, _, _, _, _, _, _, _, _, _, _, _, _, _, _, _, _, _, _, _, _, _, _, _, _, _, _, _, _, _, _, _, _, _, _, _, _, _, _, _]) ?_
        refine s_val (v := (.int .i64 (i : Int))) rfl (r_move rfl) (rfl : _ = [_, _, _, _, _, _, _, _, _, _, _, _, _, _, _, _, _, _, _, _, _, _, _, _, _, _, _, _, _, _, _, _, _, _, _, _, _, _, _, _, _, _, _, _, _, _, _, _, _, _, _, _, _]) ?_
        refine s_bool (p := ((k : Int) < (i : Int) : Prop)) rfl (r_lss rfl rfl) decide_eq_true_iff ?_
        intro b36 hb36
        refine norm (rfl : _ = [_, _, _, _, _, _, _, _, _, _, _, _, _, _, _, _, _, _, _, _, _, _, _, _, _, _, _, _, _, _, _, _, _, _, _, _, _, _, _, _, _, _, _, _, _, _, _, _, _, _, _, _, _]) ?_
        refine s_nil rfl ?_
        refine x_seq ?_
        cases b36 with
        | true =>
          replace hb36 := bt hb36
          refine c_cond rfl (fun _ => ?_) (fun hh => by cases hh)
          refine c_skip ?_
          refine x_seq ?_
          refine c_seq ?_
          refine c_block ?_
          refine c_seq ?_
          refine c_draw (by kernel_rfl) (by kernel_rfl) ?_
          refine q_val (v := v) rfl (fun w' hC => r_move rfl) (rfl : _ = [_, _, _, _, _, _, _, _, _, _, _, _, _, _, _, _, _, _, _, _, _, _, _, _, _, _, _, _, _, _, _, _, _, _, _, _, _, _, _, _, _, _, _, _, _, _, _, _, _, _, _, _, _]) ?_
          refine q_val (v := (.int .i64 (k : Int))) rfl (fun w' hC => r_move rfl) (rfl : _ = [_, _, _, _, _, _, _, _, _, _, _, _, _, _, _, _, _, _, _, _, _, _, _, _, _, _, _, _, _, _, _, _, _, _, _, _, _, _, _, _, _, _, _, _, _, _, _, _, _, _, _, _, _]) ?_
          obtain ⟨e37, a38, o39, c40, he41, hc42, hr43, hk44, hi45⟩ := (hS.at_ hb33).idx (j := (k : Int)) (by first | omega | decide) (by first | omega | simp)
          rw [Int.toNat_natCast] at he41
          obtain ⟨d46, rfl, hd47⟩ := kEv_cells.1 hc42
          refine q_val rfl (fun w' hC => hi45 _ _ _ _ _ _ _ (by kernel_rfl) rfl rfl) (rfl : _ = [_, _, _, _, _, _, _, _, _, _, _, _, _, _, _, _, _, _, _, _, _, _, _, _, _, _, _, _, _, _, _, _, _, _, _, _, _, _, _, _, _, _, _, _, _, _, _, _, _, _, _, _, _]) ?_
          refine q_val (v := (.pointer (some ⟨a38, o39 + 0, none⟩))) rfl (fun w' hC => r_field (k := 0) (o := o39) (by kernel_rfl) rfl) (rfl : _ = [_, _, _, _, _, _, _, _, _, _, _, _, _, _, _, _, _, _, _, _, _, _, _, _, _, _, _, _, _, _, _, _, _, _, _, _, _, _, _, _, _, _, _, _, _, _, _, _, _, _, _, _, _]) ?_
          refine q_val (v := (.agg #[.int .i64 e37.dot.o, .int .i64 e37.dot.s])) rfl (fun w' hC => r_load rfl (Ld.row (cs := [.int .i64 e37.dot.o, .int .i64 e37.dot.s]) Try.underlying37 rfl (by kernel_rfl) (range_sub (range_below hr43 hC) 0 rfl))) (rfl : _ = [_, _, _, _, _, _, _, _, _, _, _, _, _, _, _, _, _, _, _, _, _, _, _, _, _, _, _, _, _, _, _, _, _, _, _, _, _, _, _, _, _, _, _, _, _, _, _, _, _, _, _, _, _]) ?_
          refine q_val (v := v) rfl (fun w' hC => r_move rfl) (rfl : _ = [_, _, _, _, _, _, _, _, _, _, _, _, _, _, _, _, _, _, _, _, _, _, _, _, _, _, _, _, _, _, _, _, _, _, _, _, _, _, _, _, _, _, _, _, _, _, _, _, _, _, _, _, _]) ?_
          refine q_val (v := (.int .i64 (i : Int))) rfl (fun w' hC => r_move rfl) (rfl : _ = [_, _, _, _, _, _, _, _, _, _, _, _, _, _, _, _, _, _, _, _, _, _, _, _, _, _, _, _, _, _, _, _, _, _, _, _, _, _, _, _, _, _, _, _, _, _, _, _, _, _, _, _, _]) ?_
          obtain ⟨e48, a49, o50, c51, he52, hc53, hr54, hk55, hi56⟩ := (hS.at_ hb33).idx (j := (i : Int)) (by first | omega | decide) (by first | omega | simp)
          rw [Int.toNat_natCast] at he52
          rw [he11] at he52
          injection he52 with he52
          subst he52
          obtain ⟨d57, rfl, hd58⟩ := kEv_cells.1 hc53
          refine q_val rfl (fun w' hC => hi56 _ _ _ _ _ _ _ (by kernel_rfl) rfl rfl) (rfl : _ = [_, _, _, _, _, _, _, _, _, _, _, _, _, _, _, _, _, _, _, _, _, _, _, _, _, _, _, _, _, _, _, _, _, _, _, _, _, _, _, _, _, _, _, _, _, _, _, _, _, _, _, _, _]) ?_
          refine q_val (v := (.pointer (some ⟨a49, o50 + 0, none⟩))) rfl (fun w' hC => r_field (k := 0) (o := o50) (by kernel_rfl) rfl) (rfl : _ = [_, _, _, _, _, _, _, _, _, _, _, _, _, _, _, _, _, _, _, _, _, _, _, _, _, _, _, _, _, _, _, _, _, _, _, _, _, _, _, _, _, _, _, _, _, _, _, _, _, _, _, _, _]) ?_
          refine q_val (v := (.agg #[.int .i64 e7.dot.o, .int .i64 e7.dot.s])) rfl (fun w' hC => r_load rfl (Ld.row (cs := [.int .i64 e7.dot.o, .int .i64 e7.dot.s]) Try.underlying37 rfl (by kernel_rfl) (range_sub (range_below hr54 hC) 0 rfl))) (rfl : _ = [_, _, _, _, _, _, _, _, _, _, _, _, _, _, _, _, _, _, _, _, _, _, _, _, _, _, _, _, _, _, _, _, _, _, _, _, _, _, _, _, _, _, _, _, _, _, _, _, _, _, _, _, _]) ?_
          refine q_bool (p := (e37.dot = e7.dot : Prop)) rfl (fun w' hC => r_eq_agg (by kernel_rfl) rfl rfl (eqDot_run _ _ _ _ _)) eqDot_iff ?_
          intro b59 hb59
          refine q_norm (rfl : _ = [_, _, _, _, _, _, _, _, _, _, _, _, _, _, _, _, _, _, _, _, _, _, _, _, _, _, _, _, _, _, _, _, _, _, _, _, _, _, _, _, _, _, _, _, _, _, _, _, _, _, _, _, _]) ?_
          refine q_val (v := (.bool b59)) rfl (fun w' hC => r_move rfl) (rfl : _ = [_, _, _, _, _, _, _, _, _, _, _, _, _, _, _, _, _, _, _, _, _, _, _, _, _, _, _, _, _, _, _, _, _, _, _, _, _, _, _, _, _, _, _, _, _, _, _, _, _, _, _, _, _]) ?_
          cases b59 with
          | true =>
            replace hb59 := bt hb59
            refine q_val (v := v) (wan_t (dj := 41) rfl rfl) (fun w' hC => r_move rfl) (rfl : _ = [_, _, _, _, _, _, _, _, _, _, _, _, _, _, _, _, _, _, _, _, _, _, _, _, _, _, _, _, _, _, _, _, _, _, _, _, _, _, _, _, _, _, _, _, _, _, _, _, _, _, _, _, _]) ?_
            refine q_val (v := (.int .i64 (k : Int))) (wan_t (dj := 41) rfl rfl) (fun w' hC => r_move rfl) (rfl : _ = [_, _, _, _, _, _, _, _, _, _, _, _, _, _, _, _, _, _, _, _, _, _, _, _, _, _, _, _, _, _, _, _, _, _, _, _, _, _, _, _, _, _, _, _, _, _, _, _, _, _, _, _, _]) ?_
            obtain ⟨e60, a61, o62, c63, he64, hc65, hr66, hk67, hi68⟩ := (hS.at_ hb33).idx (j := (k : Int)) (by first | omega | decide) (by first | omega | simp)
            rw [Int.toNat_natCast] at he64
            rw [he41] at he64
            injection he64 with he64
            subst he64
            obtain ⟨d69, rfl, hd70⟩ := kEv_cells.1 hc65
            refine q_val (wan_t (dj := 41) rfl rfl) (fun w' hC => hi68 _ _ _ _ _ _ _ (by kernel_rfl) rfl rfl) (rfl : _ = [_, _, _, _, _, _, _, _, _, _, _, _, _, _, _, _, _, _, _, _, _, _, _, _, _, _, _, _, _, _, _, _, _, _, _, _, _, _, _, _, _, _, _, _, _, _, _, _, _, _, _, _, _]) ?_
            refine q_val (v := (.agg #[.int .i64 e37.dot.o, .int .i64 e37.dot.s, d69, .string e37.cart, .int .i64 e37.epoch, .string e37.sku, .int .i64 e37.qty, .bool e37.clears])) (wan_t (dj := 41) rfl rfl) (fun w' hC => r_load rfl (Ld.row Try.underlying39 rfl (by kernel_rfl) (range_below hr66 hC))) (rfl : _ = [_, _, _, _, _, _, _, _, _, _, _, _, _, _, _, _, _, _, _, _, _, _, _, _, _, _, _, _, _, _, _, _, _, _, _, _, _, _, _, _, _, _, _, _, _, _, _, _, _, _, _, _, _]) ?_
            refine q_val (v := v) (wan_t (dj := 41) rfl rfl) (fun w' hC => r_move rfl) (rfl : _ = [_, _, _, _, _, _, _, _, _, _, _, _, _, _, _, _, _, _, _, _, _, _, _, _, _, _, _, _, _, _, _, _, _, _, _, _, _, _, _, _, _, _, _, _, _, _, _, _, _, _, _, _, _]) ?_
            refine q_val (v := (.int .i64 (i : Int))) (wan_t (dj := 41) rfl rfl) (fun w' hC => r_move rfl) (rfl : _ = [_, _, _, _, _, _, _, _, _, _, _, _, _, _, _, _, _, _, _, _, _, _, _, _, _, _, _, _, _, _, _, _, _, _, _, _, _, _, _, _, _, _, _, _, _, _, _, _, _, _, _, _, _]) ?_
            obtain ⟨e71, a72, o73, c74, he75, hc76, hr77, hk78, hi79⟩ := (hS.at_ hb33).idx (j := (i : Int)) (by first | omega | decide) (by first | omega | simp)
            rw [Int.toNat_natCast] at he75
            rw [he11] at he75
            injection he75 with he75
            subst he75
            obtain ⟨d80, rfl, hd81⟩ := kEv_cells.1 hc76
            refine q_val (wan_t (dj := 41) rfl rfl) (fun w' hC => hi79 _ _ _ _ _ _ _ (by kernel_rfl) rfl rfl) (rfl : _ = [_, _, _, _, _, _, _, _, _, _, _, _, _, _, _, _, _, _, _, _, _, _, _, _, _, _, _, _, _, _, _, _, _, _, _, _, _, _, _, _, _, _, _, _, _, _, _, _, _, _, _, _, _]) ?_
            refine q_val (v := (.agg #[.int .i64 e7.dot.o, .int .i64 e7.dot.s, d80, .string e7.cart, .int .i64 e7.epoch, .string e7.sku, .int .i64 e7.qty, .bool e7.clears])) (wan_t (dj := 41) rfl rfl) (fun w' hC => r_load rfl (Ld.row Try.underlying39 rfl (by kernel_rfl) (range_below hr77 hC))) (rfl : _ = [_, _, _, _, _, _, _, _, _, _, _, _, _, _, _, _, _, _, _, _, _, _, _, _, _, _, _, _, _, _, _, _, _, _, _, _, _, _, _, _, _, _, _, _, _, _, _, _, _, _, _, _, _]) ?_
            refine q_callb (by kernel_rfl) (wan_t (dj := 41) rfl rfl) rfl (fun w' hC => sameEv_c (a := e37) (b := e7) (hd70.keep (Kept.all hC)) (hd81.keep (Kept.all hC))) ?_
            intro b82 hb82
            refine q_norm (rfl : _ = [_, _, _, _, _, _, _, _, _, _, _, _, _, _, _, _, _, _, _, _, _, _, _, _, _, _, _, _, _, _, _, _, _, _, _, _, _, _, _, _, _, _, _, _, _, _, _, _, _, _, _, _, _]) ?_
            refine q_val (wan_t (dj := 41) rfl rfl) (fun w' hC => r_not rfl rfl) (rfl : _ = [_, _, _, _, _, _, _, _, _, _, _, _, _, _, _, _, _, _, _, _, _, _, _, _, _, _, _, _, _, _, _, _, _, _, _, _, _, _, _, _, _, _, _, _, _, _, _, _, _, _, _, _, _]) ?_
            refine q_val (v := (.bool (!b82))) rfl (fun w' hC => r_pick rfl rfl) (rfl : _ = [_, _, _, _, _, _, _, _, _, _, _, _, _, _, _, _, _, _, _, _, _, _, _, _, _, _, _, _, _, _, _, _, _, _, _, _, _, _, _, _, _, _, _, _, _, _, _, _, _, _, _, _, _]) ?_
            refine q_nil rfl ?_
            intro w83 hq84
            have hc85 := Chg.of_bel hq84
            have hs86 := hc85.size
            replace hb33 := hb33.chg hc85 (by omega)
            replace hd47 := hd47.chg hc85 (by omega)
            replace hd58 := hd58.chg hc85 (by omega)
            replace hd70 := hd70.chg hc85 (by omega)
            replace hd81 := hd81.chg hc85 (by omega)
            refine x_seq ?_
            cases b82 with
            | true =>
              replace hb82 := toB_t hb82
              refine c_cond rfl (fun hh => by cases hh) (fun _ => ?_)
              refine c_skip ?_
              refine x_block ?_
              refine x_seq ?_
              refine c_region ?_
              refine s_val (v := (.int .i64 (k : Int))) rfl (r_move rfl) (rfl : _ = [_, _, _, _, _, _, _, _, _, _, _, _, _, _, _, _, _, _, _, _, _, _, _, _, _, _, _, _, _, _, _, _, _, _, _, _, _, _, _, _, _, _, _, _, _, _, _, _, _, _, _, _, _]) ?_
              refine s_val (v := (.int .i64 ((k : Int) + 1))) rfl (r_add (c := (k : Int) + 1) rfl rfl (i64_in (by omega) (by omega))) (rfl : _ = [_, _, _, _, _, _, _, _, _, _, _, _, _, _, _, _, _, _, _, _, _, _, _, _, _, _, _, _, _, _, _, _, _, _, _, _, _, _, _, _, _, _, _, _, _, _, _, _, _, _, _, _, _]) ?_
              refine s_val (v := (.int .i64 ((k : Int) + 1))) rfl (r_assign rfl) (rfl : _ = [_, _, _, _, _, _, _, _, _, _, _, _, _, _, _, _, _, _, _, _, _, _, _, _, _, _, _, _, _, _, _, _, _, _, _, _, _, _, _, _, _, _, _, _, _, _, _, _, _, _, _, _, _]) ?_
              refine s_nil rfl ?_
              refine x_then ?_
              refine ⟨_, _, ?_, rfl, (k + 1), (fun n_ => ([jk32 0, jk32 1, .int .i64 (k : Int), .int .i64 (i : Int), .bool true, .int .i64 (k : Int), .int .i64 ((k : Int) + 1), v, .int .i64 (k : Int), .pointer (some ⟨a38, o39, none⟩), .pointer (some ⟨a38, o39 + 0, none⟩), .agg #[.int .i64 e37.dot.o, .int .i64 e37.dot.s], v, .int .i64 (i : Int), .pointer (some ⟨a49, o50, none⟩), .pointer (some ⟨a49, o50 + 0, none⟩), .agg #[.int .i64 e7.dot.o, .int .i64 e7.dot.s], .bool true, .bool true, v, .int .i64 (k : Int), .pointer (some ⟨a61, o62, none⟩), .agg #[.int .i64 e37.dot.o, .int .i64 e37.dot.s, d69, .string e37.cart, .int .i64 e37.epoch, .string e37.sku, .int .i64 e37.qty, .bool e37.clears], v, .int .i64 (i : Int), .pointer (some ⟨a72, o73, none⟩), .agg #[.int .i64 e7.dot.o, .int .i64 e7.dot.s, d80, .string e7.cart, .int .i64 e7.epoch, .string e7.sku, .int .i64 e7.qty, .bool e7.clears], .bool true, .bool false, .bool false] : List Value).getD n_ undef), rfl, rfl, (by omega), (fun j hj x0 hx0 hd0 => by rcases Nat.lt_succ_iff_lt_or_eq.1 hj with h | h; exact hin j h x0 hx0 hd0; subst h; rw [he41] at hx0; injection hx0 with hx0; subst hx0; first | assumption | exact absurd hd0 (by assumption)), hb33, (by omega)⟩
              omega
            | false =>
              replace hb82 := toB_f hb82
              refine c_cond rfl (fun _ => ?_) (fun hh => by cases hh)
              refine c_seq ?_
              refine c_region ?_
              refine s_val (v := (.bool false)) rfl (r_assign rfl) (rfl : _ = [_, _, _, _, _, _, _, _, _, _, _, _, _, _, _, _, _, _, _, _, _, _, _, _, _, _, _, _, _, _, _, _, _, _, _, _, _, _, _, _, _, _, _, _, _, _, _, _, _, _, _, _, _]) ?_
              refine s_nil rfl ?_
              refine x_seq ?_
              refine c_ret ?_
              refine x_block_ret ?_
              refine x_then_ret ?_
              refine x_then_ret ?_
              refine x_block_ret ?_
              refine x_block_ret ?_
              refine x_then_ret ?_
              refine x_then_ret ?_
              refine x_block_ret ?_
              refine x_then_ret ?_
              refine post_ret rfl rfl ?_
              exact ⟨ret_no (fun hh => by have := (hh i (by omega) e7 he11).2 k e37 (by omega) he41 (by assumption); contradiction), hb33⟩
          | false =>
            replace hb59 := bf hb59
            refine q_skip (wan_f (dj := 41) rfl rfl rfl) (rfl : _ = [_, _, _, _, _, _, _, _, _, _, _, _, _, _, _, _, _, _, _, _, _, _, _, _, _, _, _, _, _, _, _, _, _, _, _, _, _, _, _, _, _, _, _, _, _, _, _, _, _, _, _, _, _]) ?_
            refine q_skip (wan_f (dj := 41) rfl rfl rfl) (rfl : _ = [_, _, _, _, _, _, _, _, _, _, _, _, _, _, _, _, _, _, _, _, _, _, _, _, _, _, _, _, _, _, _, _, _, _, _, _, _, _, _, _, _, _, _, _, _, _, _, _, _, _, _, _, _]) ?_
            refine q_skip (wan_f (dj := 41) rfl rfl rfl) (rfl : _ = [_, _, _, _, _, _, _, _, _, _, _, _, _, _, _, _, _, _, _, _, _, _, _, _, _, _, _, _, _, _, _, _, _, _, _, _, _, _, _, _, _, _, _, _, _, _, _, _, _, _, _, _, _]) ?_
            refine q_skip (wan_f (dj := 41) rfl rfl rfl) (rfl : _ = [_, _, _, _, _, _, _, _, _, _, _, _, _, _, _, _, _, _, _, _, _, _, _, _, _, _, _, _, _, _, _, _, _, _, _, _, _, _, _, _, _, _, _, _, _, _, _, _, _, _, _, _, _]) ?_
            refine q_skip (wan_f (dj := 41) rfl rfl rfl) (rfl : _ = [_, _, _, _, _, _, _, _, _, _, _, _, _, _, _, _, _, _, _, _, _, _, _, _, _, _, _, _, _, _, _, _, _, _, _, _, _, _, _, _, _, _, _, _, _, _, _, _, _, _, _, _, _]) ?_
            refine q_skip (wan_f (dj := 41) rfl rfl rfl) (rfl : _ = [_, _, _, _, _, _, _, _, _, _, _, _, _, _, _, _, _, _, _, _, _, _, _, _, _, _, _, _, _, _, _, _, _, _, _, _, _, _, _, _, _, _, _, _, _, _, _, _, _, _, _, _, _]) ?_
            refine q_skip (wan_f (dj := 41) rfl rfl rfl) (rfl : _ = [_, _, _, _, _, _, _, _, _, _, _, _, _, _, _, _, _, _, _, _, _, _, _, _, _, _, _, _, _, _, _, _, _, _, _, _, _, _, _, _, _, _, _, _, _, _, _, _, _, _, _, _, _]) ?_
            refine q_skip (wan_f (dj := 41) rfl rfl rfl) (rfl : _ = [_, _, _, _, _, _, _, _, _, _, _, _, _, _, _, _, _, _, _, _, _, _, _, _, _, _, _, _, _, _, _, _, _, _, _, _, _, _, _, _, _, _, _, _, _, _, _, _, _, _, _, _, _]) ?_
            refine q_skip (wan_f (dj := 41) rfl rfl rfl) (rfl : _ = [_, _, _, _, _, _, _, _, _, _, _, _, _, _, _, _, _, _, _, _, _, _, _, _, _, _, _, _, _, _, _, _, _, _, _, _, _, _, _, _, _, _, _, _, _, _, _, _, _, _, _, _, _]) ?_
            refine q_skip (wan_f (dj := 41) rfl rfl rfl) (rfl : _ = [_, _, _, _, _, _, _, _, _, _, _, _, _, _, _, _, _, _, _, _, _, _, _, _, _, _, _, _, _, _, _, _, _, _, _, _, _, _, _, _, _, _, _, _, _, _, _, _, _, _, _, _, _]) ?_
            refine q_val (v := (.bool false)) rfl (fun w' hC => r_pick rfl rfl) (rfl : _ = [_, _, _, _, _, _, _, _, _, _, _, _, _, _, _, _, _, _, _, _, _, _, _, _, _, _, _, _, _, _, _, _, _, _, _, _, _, _, _, _, _, _, _, _, _, _, _, _, _, _, _, _, _]) ?_
            refine q_nil rfl ?_
            intro w87 hq88
            have hc89 := Chg.of_bel hq88
            have hs90 := hc89.size
            replace hb33 := hb33.chg hc89 (by omega)
            replace hd47 := hd47.chg hc89 (by omega)
            replace hd58 := hd58.chg hc89 (by omega)
            refine x_seq ?_
            refine c_cond rfl (fun hh => by cases hh) (fun _ => ?_)
            refine c_skip ?_
            refine x_block ?_
            refine x_seq ?_
            refine c_region ?_
            refine s_val (v := (.int .i64 (k : Int))) rfl (r_move rfl) (rfl : _ = [_, _, _, _, _, _, _, _, _, _, _, _, _, _, _, _, _, _, _, _, _, _, _, _, _, _, _, _, _, _, _, _, _, _, _, _, _, _, _, _, _, _, _, _, _, _, _, _, _, _, _, _, _]) ?_
            refine s_val (v := (.int .i64 ((k : Int) + 1))) rfl (r_add (c := (k : Int) + 1) rfl rfl (i64_in (by omega) (by omega))) (rfl : _ = [_, _, _, _, _, _, _, _, _, _, _, _, _, _, _, _, _, _, _, _, _, _, _, _, _, _, _, _, _, _, _, _, _, _, _, _, _, _, _, _, _, _, _, _, _, _, _, _, _, _, _, _, _]) ?_
            refine s_val (v := (.int .i64 ((k : Int) + 1))) rfl (r_assign rfl) (rfl : _ = [_, _, _, _, _, _, _, _, _, _, _, _, _, _, _, _, _, _, _, _, _, _, _, _, _, _, _, _, _, _, _, _, _, _, _, _, _, _, _, _, _, _, _, _, _, _, _, _, _, _, _, _, _]) ?_
            refine s_nil rfl ?_
            refine x_then ?_
            refine ⟨_, _, ?_, rfl, (k + 1), (fun n_ => ([jk32 0, jk32 1, .int .i64 (k : Int), .int .i64 (i : Int), .bool true, .int .i64 (k : Int), .int .i64 ((k : Int) + 1), v, .int .i64 (k : Int), .pointer (some ⟨a38, o39, none⟩), .pointer (some ⟨a38, o39 + 0, none⟩), .agg #[.int .i64 e37.dot.o, .int .i64 e37.dot.s], v, .int .i64 (i : Int), .pointer (some ⟨a49, o50, none⟩), .pointer (some ⟨a49, o50 + 0, none⟩), .agg #[.int .i64 e7.dot.o, .int .i64 e7.dot.s], .bool false, .bool false, undef, undef, undef, undef, undef, undef, undef, undef, undef, undef, .bool false] : List Value).getD n_ undef), rfl, rfl, (by omega), (fun j hj x0 hx0 hd0 => by rcases Nat.lt_succ_iff_lt_or_eq.1 hj with h | h; exact hin j h x0 hx0 hd0; subst h; rw [he41] at hx0; injection hx0 with hx0; subst hx0; first | assumption | exact absurd hd0 (by assumption)), hb33, (by omega)⟩
            omega
        | false =>
          replace hb36 := bf hb36
          refine c_cond rfl (fun hh => by cases hh) (fun _ => ?_)
          refine c_exit ?_
          refine x_then_exit ?_
          refine x_then_exit ?_
          refine x_block_same ?_
          refine x_block ?_
          refine x_seq ?_
          refine c_region ?_
          refine s_val (v := (.int .i64 (i : Int))) rfl (r_move rfl) (rfl : _ = [_, _, _, _, _, _, _, _, _, _, _, _, _, _, _, _, _, _, _, _, _, _, _, _, _, _, _, _, _, _, _, _, _, _, _, _, _, _, _, _, _, _, _, _, _, _, _, _, _, _, _, _, _]) ?_
          refine s_val (v := (.int .i64 ((i : Int) + 1))) rfl (r_add (c := (i : Int) + 1) rfl rfl (i64_in (by omega) (by omega))) (rfl : _ = [_, _, _, _, _, _, _, _, _, _, _, _, _, _, _, _, _, _, _, _, _, _, _, _, _, _, _, _, _, _, _, _, _, _, _, _, _, _, _, _, _, _, _, _, _, _, _, _, _, _, _, _, _]) ?_
          refine s_val (v := (.int .i64 ((i : Int) + 1))) rfl (r_assign rfl) (rfl : _ = [_, _, _, _, _, _, _, _, _, _, _, _, _, _, _, _, _, _, _, _, _, _, _, _, _, _, _, _, _, _, _, _, _, _, _, _, _, _, _, _, _, _, _, _, _, _, _, _, _, _, _, _, _]) ?_
          refine s_nil rfl ?_
          refine x_then ?_
          refine ⟨_, _, ?_, rfl, (i + 1), (fun n_ => ([jk32 0, jk32 1, .int .i64 (k : Int), .int .i64 (i : Int), v, .int .i64 (l.length : Int), .bool true, .int .i64 (i : Int), .int .i64 ((i : Int) + 1), v, .int .i64 (i : Int), .pointer (some ⟨a8, o9, none⟩), .pointer (some ⟨a8, o9 + 6, none⟩), .int .i64 e7.qty, .bool false, .bool false, v, .int .i64 (i : Int), .pointer (some ⟨a20, o21, none⟩), .pointer (some ⟨a20, o21 + 6, none⟩), .int .i64 e7.qty, .bool false, .bool false, .int .i64 (k : Int), .int .i64 (i : Int), .bool false, jk32 5, jk32 6, jk32 7, jk32 8, jk32 9, jk32 10, jk32 11, jk32 12, jk32 13, jk32 14, jk32 15, jk32 16, jk32 17, jk32 18, jk32 19, jk32 20, jk32 21, jk32 22, jk32 23, jk32 24, jk32 25, jk32 26, jk32 27, jk32 28, jk32 29] : List Value).getD n_ undef), rfl, rfl, (by omega), (all_succ hall (fun e0 he0 => by rw [he11] at he0; injection he0 with he0; subst he0; exact ⟨⟨by omega, by omega⟩, fun k0 x0 hk0 hx0 hd0 => hin k0 (by omega) x0 hx0 hd0⟩)), hb33, (by omega)⟩
          omega
  | false =>
    replace hb6 := bf hb6
    refine c_cond rfl (fun hh => by cases hh) (fun _ => ?_)
    refine c_exit ?_
    refine x_then_exit ?_
    refine x_then_exit ?_
    refine x_block_same ?_
    refine x_seq ?_
    refine c_seq ?_
    refine c_region ?_
    refine s_val (v := (.bool true)) rfl (r_assign rfl) (rfl : _ = [_, _, _, _, _, _, _, _, _, _, _, _, _, _, _, _, _, _, _, _, _, _, _, _, _, _, _, _, _, _, _, _, _, _, _, _, _, _, _, _, _, _, _, _, _, _, _, _, _, _, _, _, _]) ?_
    refine s_nil rfl ?_
    refine x_seq ?_
    refine c_ret ?_
    refine post_ret rfl rfl ?_
    exact ⟨ret_yes (fun j hj => hall j (by omega)), hb3⟩

theorem total_c {ok : Nat → Prop} {w : World} {v : Value} {l : List Ln} (hS : Sl kLn ok w v l) (hq : ∀ x ∈ l, 0 ≤ x.qty ∧ x.qty ≤ 4294967296) (hln : l.length ≤ 1073741824) :
    CallsV Try.prog 26 #[v] w (fun r w' => r = .int .i64 (totL l) ∧ Bel w w') := by
  have hb := Bel.refl w
  replace hS : Sl kLn (Rg w.heap.size 0 0) w v l := hS.weak (by decide) (fun b _ hl => .inl hl)
  have hSlim := lim_le hS.lim
  refine callsV_of Try.func26 (m := 17) Try.ntmps26 rfl rfl (l := [v, undef, undef, undef, undef, undef, undef, undef, undef, undef, undef, undef, undef, undef, undef, undef, undef, undef]) rfl ?_
  refine c_seq ?_
  refine c_region ?_
  refine s_val (v := (.int .i64 0)) rfl (r_assign rfl) (rfl : _ = [_, _, _, _, _, _, _, _, _, _, _, _, _, _, _, _, _, _]) ?_
  refine s_nil rfl ?_
  refine x_seq ?_
  refine c_seq ?_
  refine c_region ?_
  refine s_val (v := (.int .i64 0)) rfl (r_assign rfl) (rfl : _ = [_, _, _, _, _, _, _, _, _, _, _, _, _, _, _, _, _, _]) ?_
  refine s_nil rfl ?_
  refine x_seq ?_
  refine c_seq ?_
  refine c_seq ?_
  refine c_region ?_
  refine s_val (v := v) rfl (r_move rfl) (rfl : _ = [_, _, _, _, _, _, _, _, _, _, _, _, _, _, _, _, _, _]) ?_
  refine s_val (v := (.int .i64 (l.length : Int))) rfl ((hS.at_ hb).len Try.underlying42 rfl _) (rfl : _ = [_, _, _, _, _, _, _, _, _, _, _, _, _, _, _, _, _, _]) ?_
  refine s_val (v := (.int .i64 0)) rfl (r_move rfl) (rfl : _ = [_, _, _, _, _, _, _, _, _, _, _, _, _, _, _, _, _, _]) ?_
  refine s_nil rfl ?_
  refine x_seq ?_
  refine c_block ?_
  refine c_loop (fun kk_ fr_ wr1 => ∃ (i : Nat) (sm : Int) (jk2 : Nat → Value), kk_ = l.length - i ∧ fr_ = [jk2 0, jk2 1, .int .i64 0, .int .i64 sm, jk2 2, jk2 3, v, .int .i64 (l.length : Int), .int .i64 (i : Int), jk2 4, jk2 5, jk2 6, jk2 7, jk2 8, jk2 9, jk2 10, jk2 11, undef] ∧ (i ≤ l.length) ∧ (sm = totL (l.take i)) ∧ (0 ≤ sm ∧ sm ≤ 4294967296 * (i : Int)) ∧ Bel w wr1 ∧ w.heap.size ≤ wr1.heap.size) _ ⟨0, 0, (fun n_ => ([v, undef, undef, undef, undef, undef, undef, undef, undef, undef, undef, undef] : List Value).getD n_ undef), rfl, rfl, (Nat.zero_le _), rfl, (by omega), hb, (Nat.le_refl _)⟩ ?_
  rintro _ _ wr1 ⟨i, sm, jk2, rfl, rfl, hi, hs, hr, hb3, hws4⟩
  have hs5 := hb3.size
  refine c_seq ?_
  refine c_region ?_
  refine s_bool (p := ((i : Int) < (l.length : Int) : Prop)) rfl (r_lss rfl rfl) decide_eq_true_iff ?_
  intro b6 hb6
  refine norm (rfl : _ = [_, _, _, _, _, _, _, _, _, _, _, _, _, _, _, _, _, _]) ?_
  refine s_nil rfl ?_
  refine x_seq ?_
  refine c_seq ?_
  cases b6 with
  | true =>
    replace hb6 := bt hb6
    refine c_cond rfl (fun _ => ?_) (fun hh => by cases hh)
    refine c_skip ?_
    refine x_seq ?_
    refine c_seq ?_
    refine c_block ?_
    refine c_seq ?_
    refine c_region ?_
    obtain ⟨e7, a8, o9, c10, he11, hc12, hr13, hk14, hi15⟩ := (hS.at_ hb3).idx (j := (i : Int)) (by first | omega | decide) (by first | omega | simp)
    rw [Int.toNat_natCast] at he11
    have hqe := hq e7 (List.mem_of_getElem? he11)
    obtain rfl := kLn_cells.1 hc12
    refine s_val rfl (hi15 _ _ _ _ _ _ _ (by kernel_rfl) rfl rfl) (rfl : _ = [_, _, _, _, _, _, _, _, _, _, _, _, _, _, _, _, _, _]) ?_
    refine s_val (v := (.agg #[.string e7.sku, .int .i64 e7.qty])) rfl (r_load rfl (Ld.row Try.underlying86 rfl (by kernel_rfl) hr13)) (rfl : _ = [_, _, _, _, _, _, _, _, _, _, _, _, _, _, _, _, _, _]) ?_
    refine s_alloc (z := (.agg #[.string ⟨#[]⟩, .int .i64 0])) 86 (by kernel_rfl) rfl ?_
    intro a16 w17 he18 hB19 hc20 hz21
    refine norm (rfl : _ = [_, _, _, _, _, _, _, _, _, _, _, _, _, _, _, _, _, _]) ?_
    have hs22 := hc20.size
    replace hb3 := hb3.chg hc20 (by omega)
    refine s_store (b := a16) (o := 0) (vs := [.string e7.sku, .int .i64 e7.qty]) (cs := [.string ⟨#[]⟩, .int .i64 0]) (cs' := [.string e7.sku, .int .i64 e7.qty]) 86 _ _ rfl (v := (.agg #[.string e7.sku, .int .i64 e7.qty])) rfl rfl rfl hB19 (by kernel_rfl) ⟨rfl, rfl, trivial⟩ (by simp) rfl ?_
    intro w23 hB24 hc25 hz26
    have hs27 := hc25.size
    replace hb3 := hb3.chg hc25 (by omega)
    refine s_nil rfl ?_
    refine x_seq ?_
    refine c_region ?_
    refine s_val (v := (.int .i64 sm)) rfl (r_move rfl) (rfl : _ = [_, _, _, _, _, _, _, _, _, _, _, _, _, _, _, _, _, _]) ?_
    refine s_val (v := (.pointer (some ⟨a16, 1, none⟩))) rfl (r_field (k := 1) (o := 0) (by kernel_rfl) rfl) (rfl : _ = [_, _, _, _, _, _, _, _, _, _, _, _, _, _, _, _, _, _]) ?_
    refine s_val (v := (.int .i64 e7.qty)) rfl (r_load rfl (Ld.one Try.underlying3 rfl (hB24.cell (i := 1) rfl))) (rfl : _ = [_, _, _, _, _, _, _, _, _, _, _, _, _, _, _, _, _, _]) ?_
    refine s_val (v := (.int .i64 (sm + e7.qty))) rfl (r_add (c := sm + e7.qty) rfl rfl (i64_in (by omega) (by omega))) (rfl : _ = [_, _, _, _, _, _, _, _, _, _, _, _, _, _, _, _, _, _]) ?_
    refine s_val (v := (.int .i64 (sm + e7.qty))) rfl (r_assign rfl) (rfl : _ = [_, _, _, _, _, _, _, _, _, _, _, _, _, _, _, _, _, _]) ?_
    refine s_nil rfl ?_
    refine x_block ?_
    refine x_seq ?_
    refine c_region ?_
    refine s_val (v := (.int .i64 ((i : Int) + 1))) rfl (r_add (c := (i : Int) + 1) rfl rfl (i64_in (by omega) (by omega))) (rfl : _ = [_, _, _, _, _, _, _, _, _, _, _, _, _, _, _, _, _, _]) ?_
    refine s_val (v := (.int .i64 ((i : Int) + 1))) rfl (r_move rfl) (rfl : _ = [_, _, _, _, _, _, _, _, _, _, _, _, _, _, _, _, _, _]) ?_
    refine s_nil rfl ?_
    refine x_then ?_
    refine ⟨_, _, ?_, rfl, (i + 1), (sm + e7.qty), (fun n_ => ([jk2 0, jk2 1, jk2 2, .pointer (some ⟨a16, 0, none⟩), .bool true, .pointer (some ⟨a8, o9, none⟩), .agg #[.string e7.sku, .int .i64 e7.qty], .int .i64 sm, .pointer (some ⟨a16, 1, none⟩), .int .i64 e7.qty, .int .i64 (sm + e7.qty), .int .i64 ((i : Int) + 1)] : List Value).getD n_ undef), rfl, rfl, (by omega), (by rw [totL_snoc he11, hs]), (by omega), hb3, (by omega)⟩
    omega
  | false =>
    replace hb6 := bf hb6
    refine c_cond rfl (fun hh => by cases hh) (fun _ => ?_)
    refine c_exit ?_
    refine x_then_exit ?_
    refine x_then_exit ?_
    refine x_block_same ?_
    refine x_seq ?_
    refine c_seq ?_
    refine c_region ?_
    refine s_val (v := (.int .i64 sm)) rfl (r_move rfl) (rfl : _ = [_, _, _, _, _, _, _, _, _, _, _, _, _, _, _, _, _, _]) ?_
    refine s_val (v := (.int .i64 sm)) rfl (r_assign rfl) (rfl : _ = [_, _, _, _, _, _, _, _, _, _, _, _, _, _, _, _, _, _]) ?_
    refine s_nil rfl ?_
    refine x_seq ?_
    refine c_ret ?_
    refine post_ret rfl rfl ?_
    have hi2 : i = l.length := by omega
    subst hi2
    rw [List.take_length] at hs
    exact ⟨int_eq hs, hb3⟩

theorem equal_c {ok ok2 : Nat → Prop} {w : World} {v u : Value} {xs ys : List Ln} (hS : Sl kLn ok w v xs) (hT : Sl kLn ok2 w u ys) :
    CallsV Try.prog 78 #[v, u] w (fun r w' => r = .bool (toB (xs = ys)) ∧ Bel w w') := by
  have hb := Bel.refl w
  replace hS : Sl kLn (Rg w.heap.size 0 0) w v xs := hS.weak (by decide) (fun b _ hl => .inl hl)
  have hSlim := lim_le hS.lim
  replace hT : Sl kLn (Rg w.heap.size 0 0) w u ys := hT.weak (by decide) (fun b _ hl => .inl hl)
  have hTlim := lim_le hT.lim
  refine callsV_of Try.func78 (m := 24) Try.ntmps78 rfl rfl (l := [v, u, undef, undef, undef, undef, undef, undef, undef, undef, undef, undef, undef, undef, undef, undef, undef, undef, undef, undef, undef, undef, undef, undef, undef, undef]) rfl ?_
  refine c_seq ?_
  refine c_region ?_
  refine s_val (v := (.bool false)) rfl (r_assign rfl) (rfl : _ = [_, _, _, _, _, _, _, _, _, _, _, _, _, _, _, _, _, _, _, _, _, _, _, _, _, _]) ?_
  refine s_nil rfl ?_
  refine x_seq ?_
  refine c_seq ?_
  refine c_seq ?_
  refine c_region ?_
  refine s_val (v := v) rfl (r_move rfl) (rfl : _ = [_, _, _, _, _, _, _, _, _, _, _, _, _, _, _, _, _, _, _, _, _, _, _, _, _, _]) ?_
  refine s_val (v := (.int .i64 (xs.length : Int))) rfl ((hS.at_ hb).len Try.underlying42 rfl _) (rfl : _ = [_, _, _, _, _, _, _, _, _, _, _, _, _, _, _, _, _, _, _, _, _, _, _, _, _, _]) ?_
  refine s_val (v := u) rfl (r_move rfl) (rfl : _ = [_, _, _, _, _, _, _, _, _, _, _, _, _, _, _, _, _, _, _, _, _, _, _, _, _, _]) ?_
  refine s_val (v := (.int .i64 (ys.length : Int))) rfl ((hT.at_ hb).len Try.underlying42 rfl _) (rfl : _ = [_, _, _, _, _, _, _, _, _, _, _, _, _, _, _, _, _, _, _, _, _, _, _, _, _, _]) ?_
  refine s_bool (p := ((xs.length : Int) ≠ (ys.length : Int) : Prop)) rfl (r_nei rfl rfl) nei_iff ?_
  intro b1 hb1
  refine norm (rfl : _ = [_, _, _, _, _, _, _, _, _, _, _, _, _, _, _, _, _, _, _, _, _, _, _, _, _, _]) ?_
  refine s_nil rfl ?_
  refine x_seq ?_
  cases b1 with
  | true =>
    replace hb1 := bt hb1
    refine c_cond rfl (fun _ => ?_) (fun hh => by cases hh)
    refine c_seq ?_
    refine c_region ?_
    refine s_val (v := (.bool false)) rfl (r_assign rfl) (rfl : _ = [_, _, _, _, _, _, _, _, _, _, _, _, _, _, _, _, _, _, _, _, _, _, _, _, _, _]) ?_
    refine s_nil rfl ?_
    refine x_seq ?_
    refine c_ret ?_
    refine x_then_ret ?_
    refine post_ret rfl rfl ?_
    exact ⟨ret_no (fun hh => by subst hh; omega), hb⟩
  | false =>
    replace hb1 := bf hb1
    refine c_cond rfl (fun hh => by cases hh) (fun _ => ?_)
    refine c_skip ?_
    refine x_seq ?_
    refine c_seq ?_
    refine c_seq ?_
    refine c_region ?_
    refine s_val (v := v) rfl (r_move rfl) (rfl : _ = [_, _, _, _, _, _, _, _, _, _, _, _, _, _, _, _, _, _, _, _, _, _, _, _, _, _]) ?_
    refine s_val (v := (.int .i64 (xs.length : Int))) rfl ((hS.at_ hb).len Try.underlying42 rfl _) (rfl : _ = [_, _, _, _, _, _, _, _, _, _, _, _, _, _, _, _, _, _, _, _, _, _, _, _, _, _]) ?_
    refine s_val (v := (.int .i64 0)) rfl (r_move rfl) (rfl : _ = [_, _, _, _, _, _, _, _, _, _, _, _, _, _, _, _, _, _, _, _, _, _, _, _, _, _]) ?_
    refine s_nil rfl ?_
    refine x_seq ?_
    refine c_block ?_
    refine c_loop (fun kk_ fr_ wr2 => ∃ (i : Nat) (jk3 : Nat → Value), kk_ = xs.length - i ∧ fr_ = [v, u, jk3 0, jk3 1, jk3 2, jk3 3, jk3 4, jk3 5, jk3 6, jk3 7, jk3 8, jk3 9, .int .i64 (xs.length : Int), .int .i64 (i : Int), jk3 10, jk3 11, jk3 12, jk3 13, jk3 14, jk3 15, jk3 16, jk3 17, jk3 18, jk3 19, jk3 20, jk3 21] ∧ (i ≤ xs.length) ∧ (∀ j, j < i → xs[j]? = ys[j]?) ∧ Bel w wr2 ∧ w.heap.size ≤ wr2.heap.size) _ ⟨0, (fun n_ => ([undef, undef, .bool false, undef, v, .int .i64 (xs.length : Int), u, .int .i64 (ys.length : Int), .bool false, v, undef, undef, undef, undef, undef, undef, undef, undef, undef, undef, undef, undef] : List Value).getD n_ undef), rfl, rfl, (Nat.zero_le _), (fun j hj => absurd hj (Nat.not_lt_zero _)), hb, (Nat.le_refl _)⟩ ?_
    rintro _ _ wr2 ⟨i, jk3, rfl, rfl, hi, hall, hb4, hws5⟩
    have hs6 := hb4.size
    refine c_seq ?_
    refine c_region ?_
    refine s_bool (p := ((i : Int) < (xs.length : Int) : Prop)) rfl (r_lss rfl rfl) decide_eq_true_iff ?_
    intro b7 hb7
    refine norm (rfl : _ = [_, _, _, _, _, _, _, _, _, _, _, _, _, _, _, _, _, _, _, _, _, _, _, _, _, _]) ?_
    refine s_nil rfl ?_
    refine x_seq ?_
    refine c_seq ?_
    cases b7 with
    | true =>
      replace hb7 := bt hb7
      refine c_cond rfl (fun _ => ?_) (fun hh => by cases hh)
      refine c_skip ?_
      refine x_seq ?_
      refine c_seq ?_
      refine c_block ?_
      refine c_seq ?_
      refine c_region ?_
      refine s_val (v := (.int .i64 (i : Int))) rfl (r_move rfl) (rfl : _ = [_, _, _, _, _, _, _, _, _, _, _, _, _, _, _, _, _, _, _, _, _, _, _, _, _, _]) ?_
      refine s_val (v := (.int .i64 (i : Int))) rfl (r_assign rfl) (rfl : _ = [_, _, _, _, _, _, _, _, _, _, _, _, _, _, _, _, _, _, _, _, _, _, _, _, _, _]) ?_
      refine s_nil rfl ?_
      refine x_seq ?_
      refine c_seq ?_
      refine c_draw (by kernel_rfl) (by kernel_rfl) ?_
      refine q_val (v := v) rfl (fun w' hC => r_move rfl) (rfl : _ = [_, _, _, _, _, _, _, _, _, _, _, _, _, _, _, _, _, _, _, _, _, _, _, _, _, _]) ?_
      refine q_val (v := (.int .i64 (i : Int))) rfl (fun w' hC => r_move rfl) (rfl : _ = [_, _, _, _, _, _, _, _, _, _, _, _, _, _, _, _, _, _, _, _, _, _, _, _, _, _]) ?_
      obtain ⟨e8, a9, o10, c11, he12, hc13, hr14, hk15, hi16⟩ := (hS.at_ hb4).idx (j := (i : Int)) (by first | omega | decide) (by first | omega | simp)
      rw [Int.toNat_natCast] at he12
      obtain rfl := kLn_cells.1 hc13
      refine q_val rfl (fun w' hC => hi16 _ _ _ _ _ _ _ (by kernel_rfl) rfl rfl) (rfl : _ = [_, _, _, _, _, _, _, _, _, _, _, _, _, _, _, _, _, _, _, _, _, _, _, _, _, _]) ?_
      refine q_val (v := (.agg #[.string e8.sku, .int .i64 e8.qty])) rfl (fun w' hC => r_load rfl (Ld.row Try.underlying86 rfl (by kernel_rfl) (range_below hr14 hC))) (rfl : _ = [_, _, _, _, _, _, _, _, _, _, _, _, _, _, _, _, _, _, _, _, _, _, _, _, _, _]) ?_
      refine q_val (v := u) rfl (fun w' hC => r_move rfl) (rfl : _ = [_, _, _, _, _, _, _, _, _, _, _, _, _, _, _, _, _, _, _, _, _, _, _, _, _, _]) ?_
      refine q_val (v := (.int .i64 (i : Int))) rfl (fun w' hC => r_move rfl) (rfl : _ = [_, _, _, _, _, _, _, _, _, _, _, _, _, _, _, _, _, _, _, _, _, _, _, _, _, _]) ?_
      obtain ⟨e17, a18, o19, c20, he21, hc22, hr23, hk24, hi25⟩ := (hT.at_ hb4).idx (j := (i : Int)) (by first | omega | decide) (by first | omega | simp)
      rw [Int.toNat_natCast] at he21
      obtain rfl := kLn_cells.1 hc22
      refine q_val rfl (fun w' hC => hi25 _ _ _ _ _ _ _ (by kernel_rfl) rfl rfl) (rfl : _ = [_, _, _, _, _, _, _, _, _, _, _, _, _, _, _, _, _, _, _, _, _, _, _, _, _, _]) ?_
      refine q_val (v := (.agg #[.string e17.sku, .int .i64 e17.qty])) rfl (fun w' hC => r_load rfl (Ld.row Try.underlying86 rfl (by kernel_rfl) (range_below hr23 hC))) (rfl : _ = [_, _, _, _, _, _, _, _, _, _, _, _, _, _, _, _, _, _, _, _, _, _, _, _, _, _]) ?_
      refine q_bool (p := (e8 ≠ e17 : Prop)) rfl (fun w' hC => r_ne_agg (by kernel_rfl) rfl rfl (eqLn_run _ _ _ _ _)) neLn_iff ?_
      intro b26 hb26
      refine q_norm (rfl : _ = [_, _, _, _, _, _, _, _, _, _, _, _, _, _, _, _, _, _, _, _, _, _, _, _, _, _]) ?_
      refine q_nil rfl ?_
      intro w27 hq28
      have hc29 := Chg.of_bel hq28
      have hs30 := hc29.size
      replace hb4 := hb4.chg hc29 (by omega)
      refine x_seq ?_
      cases b26 with
      | true =>
        replace hb26 := bt hb26
        refine c_cond rfl (fun _ => ?_) (fun hh => by cases hh)
        refine c_seq ?_
        refine c_region ?_
        refine s_val (v := (.bool false)) rfl (r_assign rfl) (rfl : _ = [_, _, _, _, _, _, _, _, _, _, _, _, _, _, _, _, _, _, _, _, _, _, _, _, _, _]) ?_
        refine s_nil rfl ?_
        refine x_seq ?_
        refine c_ret ?_
        refine x_block_ret ?_
        refine x_then_ret ?_
        refine x_then_ret ?_
        refine x_block_ret ?_
        refine x_then_ret ?_
        refine post_ret rfl rfl ?_
        exact ⟨ret_no (fun hh => by subst hh; rw [he12] at he21; injection he21 with hh2; exact absurd hh2 (by assumption)), hb4⟩
      | false =>
        replace hb26 := bf hb26
        refine c_cond rfl (fun hh => by cases hh) (fun _ => ?_)
        refine c_skip ?_
        refine x_block ?_
        refine x_seq ?_
        refine c_region ?_
        refine s_val (v := (.int .i64 ((i : Int) + 1))) rfl (r_add (c := (i : Int) + 1) rfl rfl (i64_in (by omega) (by omega))) (rfl : _ = [_, _, _, _, _, _, _, _, _, _, _, _, _, _, _, _, _, _, _, _, _, _, _, _, _, _]) ?_
        refine s_val (v := (.int .i64 ((i : Int) + 1))) rfl (r_move rfl) (rfl : _ = [_, _, _, _, _, _, _, _, _, _, _, _, _, _, _, _, _, _, _, _, _, _, _, _, _, _]) ?_
        refine s_nil rfl ?_
        refine x_then ?_
        refine ⟨_, _, ?_, rfl, (i + 1), (fun n_ => ([jk3 0, jk3 1, jk3 2, .int .i64 (i : Int), jk3 4, jk3 5, jk3 6, jk3 7, jk3 8, jk3 9, .bool true, .int .i64 (i : Int), v, .int .i64 (i : Int), .pointer (some ⟨a9, o10, none⟩), .agg #[.string e8.sku, .int .i64 e8.qty], u, .int .i64 (i : Int), .pointer (some ⟨a18, o19, none⟩), .agg #[.string e17.sku, .int .i64 e17.qty], .bool false, .int .i64 ((i : Int) + 1)] : List Value).getD n_ undef), rfl, rfl, (by omega), (all_succ hall (by rw [he12, he21]; congr 1; by_cases hh : e8 = e17; exact hh; first | exact absurd hh (by assumption) | exact absurd (fun h => hh h) (by assumption))), hb4, (by omega)⟩
        omega
    | false =>
      replace hb7 := bf hb7
      refine c_cond rfl (fun hh => by cases hh) (fun _ => ?_)
      refine c_exit ?_
      refine x_then_exit ?_
      refine x_then_exit ?_
      refine x_block_same ?_
      refine x_seq ?_
      refine c_seq ?_
      refine c_region ?_
      refine s_val (v := (.bool true)) rfl (r_assign rfl) (rfl : _ = [_, _, _, _, _, _, _, _, _, _, _, _, _, _, _, _, _, _, _, _, _, _, _, _, _, _]) ?_
      refine s_nil rfl ?_
      refine x_seq ?_
      refine c_ret ?_
      refine post_ret rfl rfl ?_
      exact ⟨ret_yes (eq_of_all (by omega) (fun j hj => hall j (by omega))), hb4⟩

theorem same_c {ok ok2 : Nat → Prop} {w : World} {v u : Value} {xs ys : List Ln} (hS : Sl kLn ok w v xs) (hT : Sl kLn ok2 w u ys) :
    CallsV Try.prog 42 #[v, u] w (fun r w' => r = .bool (toB (xs = ys)) ∧ Bel w w') := by
  have hb := Bel.refl w
  replace hS : Sl kLn (Rg w.heap.size 0 0) w v xs := hS.weak (by decide) (fun b _ hl => .inl hl)
  have hSlim := lim_le hS.lim
  replace hT : Sl kLn (Rg w.heap.size 0 0) w u ys := hT.weak (by decide) (fun b _ hl => .inl hl)
  have hTlim := lim_le hT.lim
  refine callsV_of Try.func42 (m := 6) Try.ntmps42 rfl rfl (l := [v, u, undef, undef, undef, undef, undef, undef]) rfl ?_
  refine c_seq ?_
  refine c_region ?_
  refine s_val (v := (.bool false)) rfl (r_assign rfl) (rfl : _ = [_, _, _, _, _, _, _, _]) ?_
  refine s_nil rfl ?_
  refine x_seq ?_
  refine c_seq ?_
  refine c_region ?_
  refine s_val (v := v) rfl (r_move rfl) (rfl : _ = [_, _, _, _, _, _, _, _]) ?_
  refine s_val (v := u) rfl (r_move rfl) (rfl : _ = [_, _, _, _, _, _, _, _]) ?_
  refine s_callb 78 _ _ (by kernel_rfl) rfl rfl (equal_c (hS.at_ hb) (hT.at_ hb)) ?_
  intro b1 w2 hb1 hb3
  refine norm (rfl : _ = [_, _, _, _, _, _, _, _]) ?_
  have hc4 := Chg.of_bel hb3
  have hs5 := hc4.size
  replace hb := hb.chg hc4 (by omega)
  refine s_val (v := (.bool b1)) rfl (r_assign rfl) (rfl : _ = [_, _, _, _, _, _, _, _]) ?_
  refine s_nil rfl ?_
  refine x_seq ?_
  refine c_ret ?_
  refine post_ret rfl rfl ?_
  exact ⟨bool_eq hb1.symm, hb⟩

end Go.Proofs.Ytailhdcackkegaa.Wd

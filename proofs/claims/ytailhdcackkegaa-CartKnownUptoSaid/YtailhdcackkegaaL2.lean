/- pannierlaw11.lives; CartApart: it tells true. -/
import Derived.Test.YtailhdcackkegaaP1
namespace Go.Proofs.Ytailhdcackkegaa.Wd
open Go.RowKit
set_option linter.unusedVariables false
set_option linter.unusedSimpArgs false

def teaB : ByteArray := ⟨#[116, 101, 97]⟩
def lives11l : List Ev := [⟨⟨0, 1⟩, [], ⟨#[99]⟩, 0, ⟨#[116, 101, 97]⟩, 2, false⟩, ⟨⟨1, 1⟩, [], ⟨#[99]⟩, 0, ⟨#[116, 101, 97]⟩, 1, false⟩, ⟨⟨0, 2⟩, [1], ⟨#[99]⟩, 0, ⟨#[116, 101, 97]⟩, 0, true⟩]
theorem lives11_lines : linesL lives11l ⟨#[99]⟩ = [⟨⟨#[116, 101, 97]⟩, 1⟩] := by
  have h : sumsL ⟨#[99]⟩ (onceL (standL lives11l)) = [(⟨#[116, 101, 97]⟩, 1)] := by decide
  unfold linesL
  rw [h]
  simp [keysL, lineK, getA]
theorem lives11_stand : (standL lives11l).length = 2 := by decide
theorem lives11_ok : ∀ e ∈ lives11l, okEv e := by
  intro e he
  simp only [lives11l, List.mem_cons, List.not_mem_nil, or_false] at he
  rcases he with rfl | rfl | rfl <;> exact ⟨by decide, by decide, by decide⟩

theorem lives11_c {w : World} :
    CallsV Try.prog 19 #[] w (fun r w' => r = .bool true ∧ Bel w w') := by
  have hb := Bel.refl w
  refine callsV_of Try.func19 (m := 39) Try.ntmps19 rfl rfl (l := [undef, undef, undef, undef, undef, undef, undef, undef, undef, undef, undef, undef, undef, undef, undef, undef, undef, undef, undef, undef, undef, undef, undef, undef, undef, undef, undef, undef, undef, undef, undef, undef, undef, undef, undef, undef, undef, undef, undef]) rfl ?_
  refine c_seq ?_
  refine c_region ?_
  refine s_val (v := (.bool false)) rfl (r_assign rfl) (rfl : _ = [_, _, _, _, _, _, _, _, _, _, _, _, _, _, _, _, _, _, _, _, _, _, _, _, _, _, _, _, _, _, _, _, _, _, _, _, _, _, _]) ?_
  refine s_nil rfl ?_
  refine x_seq ?_
  refine c_seq ?_
  refine c_region ?_
  refine s_val rfl (r_build (v := (.agg #[.int .i64 0, .int .i64 1])) rfl (by kernel_rfl)) (rfl : _ = [_, _, _, _, _, _, _, _, _, _, _, _, _, _, _, _, _, _, _, _, _, _, _, _, _, _, _, _, _, _, _, _, _, _, _, _, _, _, _]) ?_
  refine s_val rfl (r_build (v := (.agg #[.int .i64 0, .int .i64 1, .slice none 0 0, .string ⟨#[99]⟩, .int .i64 0, .string ⟨#[116, 101, 97]⟩, .int .i64 2, .bool false])) rfl (by kernel_rfl)) (rfl : _ = [_, _, _, _, _, _, _, _, _, _, _, _, _, _, _, _, _, _, _, _, _, _, _, _, _, _, _, _, _, _, _, _, _, _, _, _, _, _, _]) ?_
  refine s_val rfl (r_build (v := (.agg #[.int .i64 1, .int .i64 1])) rfl (by kernel_rfl)) (rfl : _ = [_, _, _, _, _, _, _, _, _, _, _, _, _, _, _, _, _, _, _, _, _, _, _, _, _, _, _, _, _, _, _, _, _, _, _, _, _, _, _]) ?_
  refine s_val rfl (r_build (v := (.agg #[.int .i64 1, .int .i64 1, .slice none 0 0, .string ⟨#[99]⟩, .int .i64 0, .string ⟨#[116, 101, 97]⟩, .int .i64 1, .bool false])) rfl (by kernel_rfl)) (rfl : _ = [_, _, _, _, _, _, _, _, _, _, _, _, _, _, _, _, _, _, _, _, _, _, _, _, _, _, _, _, _, _, _, _, _, _, _, _, _, _, _]) ?_
  refine s_val rfl (r_build (v := (.agg #[.int .i64 0, .int .i64 2])) rfl (by kernel_rfl)) (rfl : _ = [_, _, _, _, _, _, _, _, _, _, _, _, _, _, _, _, _, _, _, _, _, _, _, _, _, _, _, _, _, _, _, _, _, _, _, _, _, _, _]) ?_
  refine s_buildSlice (cs := [.int .i64 1]) (e := 3) 23 1 _ rfl rfl (by kernel_rfl) ?_
  intro a1 w2 he3 hB4 hc5 hz6
  refine norm (rfl : _ = [_, _, _, _, _, _, _, _, _, _, _, _, _, _, _, _, _, _, _, _, _, _, _, _, _, _, _, _, _, _, _, _, _, _, _, _, _, _, _]) ?_
  have hs7 := hc5.size
  replace hb := hb.chg hc5 (by omega)
  have hO8 : OwnX kInt 3 0 a1 (a1 + 1) w2 (.slice (some ⟨a1, 0, none⟩) 1 1) [1] := OwnX.of_bx (ok := (fun _ => False)) hB4 (flat_one rfl) rfl (by simp [lim]) (by omega) (Nat.le_refl _) (by omega) (by omega) (fun _ hb _ => hb.elim)
  refine s_val rfl (r_build (v := (.agg #[.int .i64 0, .int .i64 2, .slice (some ⟨a1, 0, none⟩) 1 1, .string ⟨#[99]⟩, .int .i64 0, .string ⟨#[116, 101, 97]⟩, .int .i64 0, .bool true])) rfl (by kernel_rfl)) (rfl : _ = [_, _, _, _, _, _, _, _, _, _, _, _, _, _, _, _, _, _, _, _, _, _, _, _, _, _, _, _, _, _, _, _, _, _, _, _, _, _, _]) ?_
  refine s_buildSlice (cs := [.int .i64 0, .int .i64 1, .slice none 0 0, .string ⟨#[99]⟩, .int .i64 0, .string ⟨#[116, 101, 97]⟩, .int .i64 2, .bool false, .int .i64 1, .int .i64 1, .slice none 0 0, .string ⟨#[99]⟩, .int .i64 0, .string ⟨#[116, 101, 97]⟩, .int .i64 1, .bool false, .int .i64 0, .int .i64 2, .slice (some ⟨a1, 0, none⟩) 1 1, .string ⟨#[99]⟩, .int .i64 0, .string ⟨#[116, 101, 97]⟩, .int .i64 0, .bool true]) (e := 39) 34 3 _ rfl rfl (by kernel_rfl) ?_
  intro a9 w10 he11 hB12 hc13 hz14
  refine norm (rfl : _ = [_, _, _, _, _, _, _, _, _, _, _, _, _, _, _, _, _, _, _, _, _, _, _, _, _, _, _, _, _, _, _, _, _, _, _, _, _, _, _]) ?_
  have hs15 := hc13.size
  replace hb := hb.chg hc13 (by omega)
  replace hO8 := hO8.chg hc13 (by omega)
  refine s_val (v := (.slice (some ⟨a9, 0, none⟩) 3 3)) rfl (r_assign rfl) (rfl : _ = [_, _, _, _, _, _, _, _, _, _, _, _, _, _, _, _, _, _, _, _, _, _, _, _, _, _, _, _, _, _, _, _, _, _, _, _, _, _, _]) ?_
  refine s_nil rfl ?_
  refine x_seq ?_
  refine c_seq ?_
  refine c_region ?_
  refine s_val (v := (.slice (some ⟨a9, 0, none⟩) 3 3)) rfl (r_move rfl) (rfl : _ = [_, _, _, _, _, _, _, _, _, _, _, _, _, _, _, _, _, _, _, _, _, _, _, _, _, _, _, _, _, _, _, _, _, _, _, _, _, _, _]) ?_
  have hO16 : OwnX kEv 39 a9 a9 (a9 + 1) w10 (.slice (some ⟨a9, 0, none⟩) 3 3) [⟨⟨0, 1⟩, [], ⟨#[99]⟩, 0, ⟨#[116, 101, 97]⟩, 2, false⟩, ⟨⟨1, 1⟩, [], ⟨#[99]⟩, 0, ⟨#[116, 101, 97]⟩, 1, false⟩, ⟨⟨0, 2⟩, [1], ⟨#[99]⟩, 0, ⟨#[116, 101, 97]⟩, 0, true⟩] := OwnX.of_bx (ok := Rg 0 a1 (a1 + 1)) hB12 (Flat.snoc (cs := [.int .i64 0, .int .i64 1, .slice none 0 0, .string ⟨#[99]⟩, .int .i64 0, .string ⟨#[116, 101, 97]⟩, .int .i64 2, .bool false, .int .i64 1, .int .i64 1, .slice none 0 0, .string ⟨#[99]⟩, .int .i64 0, .string ⟨#[116, 101, 97]⟩, .int .i64 1, .bool false]) (xs := [⟨⟨0, 1⟩, [], ⟨#[99]⟩, 0, ⟨#[116, 101, 97]⟩, 2, false⟩, ⟨⟨1, 1⟩, [], ⟨#[99]⟩, 0, ⟨#[116, 101, 97]⟩, 1, false⟩]) (c := [.int .i64 0, .int .i64 2, .slice (some ⟨a1, 0, none⟩) 1 1, .string ⟨#[99]⟩, .int .i64 0, .string ⟨#[116, 101, 97]⟩, .int .i64 0, .bool true]) (x := ⟨⟨0, 2⟩, [1], ⟨#[99]⟩, 0, ⟨#[116, 101, 97]⟩, 0, true⟩) (Flat.snoc (cs := [.int .i64 0, .int .i64 1, .slice none 0 0, .string ⟨#[99]⟩, .int .i64 0, .string ⟨#[116, 101, 97]⟩, .int .i64 2, .bool false]) (xs := [⟨⟨0, 1⟩, [], ⟨#[99]⟩, 0, ⟨#[116, 101, 97]⟩, 2, false⟩]) (c := [.int .i64 1, .int .i64 1, .slice none 0 0, .string ⟨#[99]⟩, .int .i64 0, .string ⟨#[116, 101, 97]⟩, .int .i64 1, .bool false]) (x := ⟨⟨1, 1⟩, [], ⟨#[99]⟩, 0, ⟨#[116, 101, 97]⟩, 1, false⟩) (flat_one (kEv_cells.2 ⟨_, rfl, (Sl.nil _ _ _)⟩)) (kEv_cells.2 ⟨_, rfl, (Sl.nil _ _ _)⟩)) (kEv_cells.2 ⟨_, rfl, hO8.sl⟩)) rfl (by simp [lim]) (by omega) (Nat.le_refl _) (by omega) (by omega) (by intro b hb hl; unfold Rg at hb; omega)
  refine s_call 23 _ _ (by kernel_rfl) rfl rfl (lines_c hO16.sl ⟨#[99]⟩ lives11_ok) ?_
  rintro v17 w18 ⟨hS19, hb20⟩
  refine norm (rfl : _ = [_, _, _, _, _, _, _, _, _, _, _, _, _, _, _, _, _, _, _, _, _, _, _, _, _, _, _, _, _, _, _, _, _, _, _, _, _, _, _]) ?_
  have hc21 := Chg.of_bel hb20
  have hs22 := hc21.size
  replace hb := hb.chg hc21 (by omega)
  replace hO8 := hO8.chg hc21 (by omega)
  replace hO16 := hO16.chg hc21 (by omega)
  replace hS19 : Sl kLn (Rg 0 w10.heap.size w18.heap.size) w18 v17 [⟨⟨#[116, 101, 97]⟩, 1⟩] := by have h2 := lives11_lines; unfold lives11l at h2; rw [h2] at hS19; exact hS19
  refine s_val (v := v17) rfl (r_assign rfl) (rfl : _ = [_, _, _, _, _, _, _, _, _, _, _, _, _, _, _, _, _, _, _, _, _, _, _, _, _, _, _, _, _, _, _, _, _, _, _, _, _, _, _]) ?_
  refine s_nil rfl ?_
  refine x_seq ?_
  refine c_seq ?_
  refine c_region ?_
  refine s_val (v := v17) rfl (r_move rfl) (rfl : _ = [_, _, _, _, _, _, _, _, _, _, _, _, _, _, _, _, _, _, _, _, _, _, _, _, _, _, _, _, _, _, _, _, _, _, _, _, _, _, _]) ?_
  refine s_val (v := (.int .i64 ([⟨⟨#[116, 101, 97]⟩, 1⟩].length : Int))) rfl (hS19.len Try.underlying42 rfl _) (rfl : _ = [_, _, _, _, _, _, _, _, _, _, _, _, _, _, _, _, _, _, _, _, _, _, _, _, _, _, _, _, _, _, _, _, _, _, _, _, _, _, _]) ?_
  refine s_bool (p := (([⟨⟨#[116, 101, 97]⟩, 1⟩].length : Int) = 1 : Prop)) rfl (r_eqi rfl rfl) eqi_iff ?_
  intro b23 hb23
  refine norm (rfl : _ = [_, _, _, _, _, _, _, _, _, _, _, _, _, _, _, _, _, _, _, _, _, _, _, _, _, _, _, _, _, _, _, _, _, _, _, _, _, _, _]) ?_
  refine s_val (v := (.bool b23)) rfl (r_move rfl) (rfl : _ = [_, _, _, _, _, _, _, _, _, _, _, _, _, _, _, _, _, _, _, _, _, _, _, _, _, _, _, _, _, _, _, _, _, _, _, _, _, _, _]) ?_
  cases b23 with
  | true =>
    replace hb23 := bt hb23
    refine s_val (v := v17) (wan_t (dj := 16) rfl rfl) (r_move rfl) (rfl : _ = [_, _, _, _, _, _, _, _, _, _, _, _, _, _, _, _, _, _, _, _, _, _, _, _, _, _, _, _, _, _, _, _, _, _, _, _, _, _, _]) ?_
    obtain ⟨e24, a25, o26, c27, he28, hc29, hr30, hk31, hi32⟩ := hS19.idx (j := 0) (by first | omega | decide) (by first | omega | simp)
    obtain rfl := kLn_cells.1 hc29
    refine s_val (wan_t (dj := 16) rfl rfl) (hi32 _ _ _ _ _ _ _ (by kernel_rfl) rfl rfl) (rfl : _ = [_, _, _, _, _, _, _, _, _, _, _, _, _, _, _, _, _, _, _, _, _, _, _, _, _, _, _, _, _, _, _, _, _, _, _, _, _, _, _]) ?_
    refine s_val (v := (.agg #[.string e24.sku, .int .i64 e24.qty])) (wan_t (dj := 16) rfl rfl) (r_load rfl (Ld.row Try.underlying86 rfl (by kernel_rfl) hr30)) (rfl : _ = [_, _, _, _, _, _, _, _, _, _, _, _, _, _, _, _, _, _, _, _, _, _, _, _, _, _, _, _, _, _, _, _, _, _, _, _, _, _, _]) ?_
    refine s_val (wan_t (dj := 16) rfl rfl) (r_build (v := (.agg #[.string ⟨#[116, 101, 97]⟩, .int .i64 1])) rfl (by kernel_rfl)) (rfl : _ = [_, _, _, _, _, _, _, _, _, _, _, _, _, _, _, _, _, _, _, _, _, _, _, _, _, _, _, _, _, _, _, _, _, _, _, _, _, _, _]) ?_
    refine s_bool (p := (e24 = ⟨⟨#[116, 101, 97]⟩, 1⟩ : Prop)) (wan_t (dj := 16) rfl rfl) (r_eq_agg (by kernel_rfl) rfl rfl (eqLn_run _ _ _ _ _)) eqLn_iff ?_
    intro b33 hb33
    refine norm (rfl : _ = [_, _, _, _, _, _, _, _, _, _, _, _, _, _, _, _, _, _, _, _, _, _, _, _, _, _, _, _, _, _, _, _, _, _, _, _, _, _, _]) ?_
    refine s_val (v := (.bool b33)) rfl (r_pick rfl rfl) (rfl : _ = [_, _, _, _, _, _, _, _, _, _, _, _, _, _, _, _, _, _, _, _, _, _, _, _, _, _, _, _, _, _, _, _, _, _, _, _, _, _, _]) ?_
    refine s_val (v := (.bool b33)) rfl (r_move rfl) (rfl : _ = [_, _, _, _, _, _, _, _, _, _, _, _, _, _, _, _, _, _, _, _, _, _, _, _, _, _, _, _, _, _, _, _, _, _, _, _, _, _, _]) ?_
    cases b33 with
    | true =>
      replace hb33 := bt hb33
      refine s_val (v := v17) (wan_t (dj := 23) rfl rfl) (r_move rfl) (rfl : _ = [_, _, _, _, _, _, _, _, _, _, _, _, _, _, _, _, _, _, _, _, _, _, _, _, _, _, _, _, _, _, _, _, _, _, _, _, _, _, _]) ?_
      refine s_call 26 _ _ (by kernel_rfl) (wan_t (dj := 23) rfl rfl) rfl (total_c hS19 (by intro x hx; simp at hx; subst hx; exact ⟨by decide, by decide⟩) (by decide)) ?_
      rintro _ w34 ⟨rfl, hb35⟩
      refine norm (rfl : _ = [_, _, _, _, _, _, _, _, _, _, _, _, _, _, _, _, _, _, _, _, _, _, _, _, _, _, _, _, _, _, _, _, _, _, _, _, _, _, _]) ?_
      have hc36 := Chg.of_bel hb35
      have hs37 := hc36.size
      replace hb := hb.chg hc36 (by omega)
      replace hO8 := hO8.chg hc36 (by omega)
      replace hO16 := hO16.chg hc36 (by omega)
      replace hS19 := hS19.chg hc36 (by omega)
      refine s_bool (p := ((totL [⟨⟨#[116, 101, 97]⟩, 1⟩]) = 1 : Prop)) (wan_t (dj := 23) rfl rfl) (r_eqi rfl rfl) eqi_iff ?_
      intro b38 hb38
      refine norm (rfl : _ = [_, _, _, _, _, _, _, _, _, _, _, _, _, _, _, _, _, _, _, _, _, _, _, _, _, _, _, _, _, _, _, _, _, _, _, _, _, _, _]) ?_
      refine s_val (v := (.bool b38)) rfl (r_pick rfl rfl) (rfl : _ = [_, _, _, _, _, _, _, _, _, _, _, _, _, _, _, _, _, _, _, _, _, _, _, _, _, _, _, _, _, _, _, _, _, _, _, _, _, _, _]) ?_
      refine s_val (v := (.bool b38)) rfl (r_move rfl) (rfl : _ = [_, _, _, _, _, _, _, _, _, _, _, _, _, _, _, _, _, _, _, _, _, _, _, _, _, _, _, _, _, _, _, _, _, _, _, _, _, _, _]) ?_
      cases b38 with
      | true =>
        replace hb38 := bt hb38
        refine s_val (v := (.slice (some ⟨a9, 0, none⟩) 3 3)) (wan_t (dj := 28) rfl rfl) (r_move rfl) (rfl : _ = [_, _, _, _, _, _, _, _, _, _, _, _, _, _, _, _, _, _, _, _, _, _, _, _, _, _, _, _, _, _, _, _, _, _, _, _, _, _, _]) ?_
        refine s_call 53 _ _ (by kernel_rfl) (wan_t (dj := 28) rfl rfl) rfl (stand_c hO16.sl) ?_
        rintro v39 w40 ⟨hS41, hb42⟩
        refine norm (rfl : _ = [_, _, _, _, _, _, _, _, _, _, _, _, _, _, _, _, _, _, _, _, _, _, _, _, _, _, _, _, _, _, _, _, _, _, _, _, _, _, _]) ?_
        have hc43 := Chg.of_bel hb42
        have hs44 := hc43.size
        replace hb := hb.chg hc43 (by omega)
        replace hO8 := hO8.chg hc43 (by omega)
        replace hO16 := hO16.chg hc43 (by omega)
        replace hS19 := hS19.chg hc43 (by omega)
        refine s_val (v := (.int .i64 ((standL [⟨⟨0, 1⟩, [], ⟨#[99]⟩, 0, ⟨#[116, 101, 97]⟩, 2, false⟩, ⟨⟨1, 1⟩, [], ⟨#[99]⟩, 0, ⟨#[116, 101, 97]⟩, 1, false⟩, ⟨⟨0, 2⟩, [1], ⟨#[99]⟩, 0, ⟨#[116, 101, 97]⟩, 0, true⟩]).length : Int))) (wan_t (dj := 28) rfl rfl) (hS41.len Try.underlying34 rfl _) (rfl : _ = [_, _, _, _, _, _, _, _, _, _, _, _, _, _, _, _, _, _, _, _, _, _, _, _, _, _, _, _, _, _, _, _, _, _, _, _, _, _, _]) ?_
        refine s_bool (p := (((standL [⟨⟨0, 1⟩, [], ⟨#[99]⟩, 0, ⟨#[116, 101, 97]⟩, 2, false⟩, ⟨⟨1, 1⟩, [], ⟨#[99]⟩, 0, ⟨#[116, 101, 97]⟩, 1, false⟩, ⟨⟨0, 2⟩, [1], ⟨#[99]⟩, 0, ⟨#[116, 101, 97]⟩, 0, true⟩]).length : Int) = 2 : Prop)) (wan_t (dj := 28) rfl rfl) (r_eqi rfl rfl) eqi_iff ?_
        intro b45 hb45
        refine norm (rfl : _ = [_, _, _, _, _, _, _, _, _, _, _, _, _, _, _, _, _, _, _, _, _, _, _, _, _, _, _, _, _, _, _, _, _, _, _, _, _, _, _]) ?_
        refine s_val (v := (.bool b45)) rfl (r_pick rfl rfl) (rfl : _ = [_, _, _, _, _, _, _, _, _, _, _, _, _, _, _, _, _, _, _, _, _, _, _, _, _, _, _, _, _, _, _, _, _, _, _, _, _, _, _]) ?_
        refine s_val (v := (.bool b45)) rfl (r_move rfl) (rfl : _ = [_, _, _, _, _, _, _, _, _, _, _, _, _, _, _, _, _, _, _, _, _, _, _, _, _, _, _, _, _, _, _, _, _, _, _, _, _, _, _]) ?_
        cases b45 with
        | true =>
          replace hb45 := bt hb45
          refine s_val (v := v17) (wan_t (dj := 34) rfl rfl) (r_move rfl) (rfl : _ = [_, _, _, _, _, _, _, _, _, _, _, _, _, _, _, _, _, _, _, _, _, _, _, _, _, _, _, _, _, _, _, _, _, _, _, _, _, _, _]) ?_
          refine s_val (v := v17) (wan_t (dj := 34) rfl rfl) (r_move rfl) (rfl : _ = [_, _, _, _, _, _, _, _, _, _, _, _, _, _, _, _, _, _, _, _, _, _, _, _, _, _, _, _, _, _, _, _, _, _, _, _, _, _, _]) ?_
          refine s_callb 42 _ _ (by kernel_rfl) (wan_t (dj := 34) rfl rfl) rfl (same_c hS19 hS19) ?_
          intro b46 w47 hb46 hb48
          refine norm (rfl : _ = [_, _, _, _, _, _, _, _, _, _, _, _, _, _, _, _, _, _, _, _, _, _, _, _, _, _, _, _, _, _, _, _, _, _, _, _, _, _, _]) ?_
          have hc49 := Chg.of_bel hb48
          have hs50 := hc49.size
          replace hb := hb.chg hc49 (by omega)
          replace hO8 := hO8.chg hc49 (by omega)
          replace hO16 := hO16.chg hc49 (by omega)
          replace hS19 := hS19.chg hc49 (by omega)
          replace hS41 := hS41.chg hc49 (by omega)
          refine s_val (v := (.bool b46)) rfl (r_pick rfl rfl) (rfl : _ = [_, _, _, _, _, _, _, _, _, _, _, _, _, _, _, _, _, _, _, _, _, _, _, _, _, _, _, _, _, _, _, _, _, _, _, _, _, _, _]) ?_
          refine s_val (v := (.bool b46)) rfl (r_assign rfl) (rfl : _ = [_, _, _, _, _, _, _, _, _, _, _, _, _, _, _, _, _, _, _, _, _, _, _, _, _, _, _, _, _, _, _, _, _, _, _, _, _, _, _]) ?_
          refine s_nil rfl ?_
          refine x_seq ?_
          refine c_ret ?_
          refine post_ret rfl rfl ?_
          cases b46 with
          | true =>
            replace hb46 := toB_t hb46
            exact ⟨rfl, hb⟩
          | false =>
            replace hb46 := toB_f hb46
            first | exact absurd rfl hb46 | exact absurd (by have h2 := lives11_stand; unfold lives11l at h2; rw [h2]; rfl) hb46 | (exfalso; simp_all)
        | false =>
          replace hb45 := bf hb45
          refine s_skip (wan_f (dj := 34) rfl rfl rfl) (rfl : _ = [_, _, _, _, _, _, _, _, _, _, _, _, _, _, _, _, _, _, _, _, _, _, _, _, _, _, _, _, _, _, _, _, _, _, _, _, _, _, _]) ?_
          refine s_skip (wan_f (dj := 34) rfl rfl rfl) (rfl : _ = [_, _, _, _, _, _, _, _, _, _, _, _, _, _, _, _, _, _, _, _, _, _, _, _, _, _, _, _, _, _, _, _, _, _, _, _, _, _, _]) ?_
          refine s_skip (wan_f (dj := 34) rfl rfl rfl) (rfl : _ = [_, _, _, _, _, _, _, _, _, _, _, _, _, _, _, _, _, _, _, _, _, _, _, _, _, _, _, _, _, _, _, _, _, _, _, _, _, _, _]) ?_
          refine s_val (v := (.bool false)) rfl (r_pick rfl rfl) (rfl : _ = [_, _, _, _, _, _, _, _, _, _, _, _, _, _, _, _, _, _, _, _, _, _, _, _, _, _, _, _, _, _, _, _, _, _, _, _, _, _, _]) ?_
          refine s_val (v := (.bool false)) rfl (r_assign rfl) (rfl : _ = [_, _, _, _, _, _, _, _, _, _, _, _, _, _, _, _, _, _, _, _, _, _, _, _, _, _, _, _, _, _, _, _, _, _, _, _, _, _, _]) ?_
          refine s_nil rfl ?_
          refine x_seq ?_
          refine c_ret ?_
          refine post_ret rfl rfl ?_
          first | exact absurd rfl hb45 | exact absurd (by have h2 := lives11_stand; unfold lives11l at h2; rw [h2]; rfl) hb45 | (exfalso; simp_all)
      | false =>
        replace hb38 := bf hb38
        refine s_skip (wan_f (dj := 28) rfl rfl rfl) (rfl : _ = [_, _, _, _, _, _, _, _, _, _, _, _, _, _, _, _, _, _, _, _, _, _, _, _, _, _, _, _, _, _, _, _, _, _, _, _, _, _, _]) ?_
        refine s_skip (wan_f (dj := 28) rfl rfl rfl) (rfl : _ = [_, _, _, _, _, _, _, _, _, _, _, _, _, _, _, _, _, _, _, _, _, _, _, _, _, _, _, _, _, _, _, _, _, _, _, _, _, _, _]) ?_
        refine s_skip (wan_f (dj := 28) rfl rfl rfl) (rfl : _ = [_, _, _, _, _, _, _, _, _, _, _, _, _, _, _, _, _, _, _, _, _, _, _, _, _, _, _, _, _, _, _, _, _, _, _, _, _, _, _]) ?_
        refine s_skip (wan_f (dj := 28) rfl rfl rfl) (rfl : _ = [_, _, _, _, _, _, _, _, _, _, _, _, _, _, _, _, _, _, _, _, _, _, _, _, _, _, _, _, _, _, _, _, _, _, _, _, _, _, _]) ?_
        refine s_val (v := (.bool false)) rfl (r_pick rfl rfl) (rfl : _ = [_, _, _, _, _, _, _, _, _, _, _, _, _, _, _, _, _, _, _, _, _, _, _, _, _, _, _, _, _, _, _, _, _, _, _, _, _, _, _]) ?_
        refine s_val (v := (.bool false)) rfl (r_move rfl) (rfl : _ = [_, _, _, _, _, _, _, _, _, _, _, _, _, _, _, _, _, _, _, _, _, _, _, _, _, _, _, _, _, _, _, _, _, _, _, _, _, _, _]) ?_
        refine s_skip (wan_f (dj := 34) rfl rfl rfl) (rfl : _ = [_, _, _, _, _, _, _, _, _, _, _, _, _, _, _, _, _, _, _, _, _, _, _, _, _, _, _, _, _, _, _, _, _, _, _, _, _, _, _]) ?_
        refine s_skip (wan_f (dj := 34) rfl rfl rfl) (rfl : _ = [_, _, _, _, _, _, _, _, _, _, _, _, _, _, _, _, _, _, _, _, _, _, _, _, _, _, _, _, _, _, _, _, _, _, _, _, _, _, _]) ?_
        refine s_skip (wan_f (dj := 34) rfl rfl rfl) (rfl : _ = [_, _, _, _, _, _, _, _, _, _, _, _, _, _, _, _, _, _, _, _, _, _, _, _, _, _, _, _, _, _, _, _, _, _, _, _, _, _, _]) ?_
        refine s_val (v := (.bool false)) rfl (r_pick rfl rfl) (rfl : _ = [_, _, _, _, _, _, _, _, _, _, _, _, _, _, _, _, _, _, _, _, _, _, _, _, _, _, _, _, _, _, _, _, _, _, _, _, _, _, _]) ?_
        refine s_val (v := (.bool false)) rfl (r_assign rfl) (rfl : _ = [_, _, _, _, _, _, _, _, _, _, _, _, _, _, _, _, _, _, _, _, _, _, _, _, _, _, _, _, _, _, _, _, _, _, _, _, _, _, _]) ?_
        refine s_nil rfl ?_
        refine x_seq ?_
        refine c_ret ?_
        refine post_ret rfl rfl ?_
        first | exact absurd rfl hb38 | exact absurd (by have h2 := lives11_stand; unfold lives11l at h2; rw [h2]; rfl) hb38 | (exfalso; simp_all)
    | false =>
      replace hb33 := bf hb33
      refine s_skip (wan_f (dj := 23) rfl rfl rfl) (rfl : _ = [_, _, _, _, _, _, _, _, _, _, _, _, _, _, _, _, _, _, _, _, _, _, _, _, _, _, _, _, _, _, _, _, _, _, _, _, _, _, _]) ?_
      refine s_skip (wan_f (dj := 23) rfl rfl rfl) (rfl : _ = [_, _, _, _, _, _, _, _, _, _, _, _, _, _, _, _, _, _, _, _, _, _, _, _, _, _, _, _, _, _, _, _, _, _, _, _, _, _, _]) ?_
      refine s_skip (wan_f (dj := 23) rfl rfl rfl) (rfl : _ = [_, _, _, _, _, _, _, _, _, _, _, _, _, _, _, _, _, _, _, _, _, _, _, _, _, _, _, _, _, _, _, _, _, _, _, _, _, _, _]) ?_
      refine s_val (v := (.bool false)) rfl (r_pick rfl rfl) (rfl : _ = [_, _, _, _, _, _, _, _, _, _, _, _, _, _, _, _, _, _, _, _, _, _, _, _, _, _, _, _, _, _, _, _, _, _, _, _, _, _, _]) ?_
      refine s_val (v := (.bool false)) rfl (r_move rfl) (rfl : _ = [_, _, _, _, _, _, _, _, _, _, _, _, _, _, _, _, _, _, _, _, _, _, _, _, _, _, _, _, _, _, _, _, _, _, _, _, _, _, _]) ?_
      refine s_skip (wan_f (dj := 28) rfl rfl rfl) (rfl : _ = [_, _, _, _, _, _, _, _, _, _, _, _, _, _, _, _, _, _, _, _, _, _, _, _, _, _, _, _, _, _, _, _, _, _, _, _, _, _, _]) ?_
      refine s_skip (wan_f (dj := 28) rfl rfl rfl) (rfl : _ = [_, _, _, _, _, _, _, _, _, _, _, _, _, _, _, _, _, _, _, _, _, _, _, _, _, _, _, _, _, _, _, _, _, _, _, _, _, _, _]) ?_
      refine s_skip (wan_f (dj := 28) rfl rfl rfl) (rfl : _ = [_, _, _, _, _, _, _, _, _, _, _, _, _, _, _, _, _, _, _, _, _, _, _, _, _, _, _, _, _, _, _, _, _, _, _, _, _, _, _]) ?_
      refine s_skip (wan_f (dj := 28) rfl rfl rfl) (rfl : _ = [_, _, _, _, _, _, _, _, _, _, _, _, _, _, _, _, _, _, _, _, _, _, _, _, _, _, _, _, _, _, _, _, _, _, _, _, _, _, _]) ?_
      refine s_val (v := (.bool false)) rfl (r_pick rfl rfl) (rfl : _ = [_, _, _, _, _, _, _, _, _, _, _, _, _, _, _, _, _, _, _, _, _, _, _, _, _, _, _, _, _, _, _, _, _, _, _, _, _, _, _]) ?_
      refine s_val (v := (.bool false)) rfl (r_move rfl) (rfl : _ = [_, _, _, _, _, _, _, _, _, _, _, _, _, _, _, _, _, _, _, _, _, _, _, _, _, _, _, _, _, _, _, _, _, _, _, _, _, _, _]) ?_
      refine s_skip (wan_f (dj := 34) rfl rfl rfl) (rfl : _ = [_, _, _, _, _, _, _, _, _, _, _, _, _, _, _, _, _, _, _, _, _, _, _, _, _, _, _, _, _, _, _, _, _, _, _, _, _, _, _]) ?_
      refine s_skip (wan_f (dj := 34) rfl rfl rfl) (rfl : _ = [_, _, _, _, _, _, _, _, _, _, _, _, _, _, _, _, _, _, _, _, _, _, _, _, _, _, _, _, _, _, _, _, _, _, _, _, _, _, _]) ?_
      refine s_skip (wan_f (dj := 34) rfl rfl rfl) (rfl : _ = [_, _, _, _, _, _, _, _, _, _, _, _, _, _, _, _, _, _, _, _, _, _, _, _, _, _, _, _, _, _, _, _, _, _, _, _, _, _, _]) ?_
      refine s_val (v := (.bool false)) rfl (r_pick rfl rfl) (rfl : _ = [_, _, _, _, _, _, _, _, _, _, _, _, _, _, _, _, _, _, _, _, _, _, _, _, _, _, _, _, _, _, _, _, _, _, _, _, _, _, _]) ?_
      refine s_val (v := (.bool false)) rfl (r_assign rfl) (rfl : _ = [_, _, _, _, _, _, _, _, _, _, _, _, _, _, _, _, _, _, _, _, _, _, _, _, _, _, _, _, _, _, _, _, _, _, _, _, _, _, _]) ?_
      refine s_nil rfl ?_
      refine x_seq ?_
      refine c_ret ?_
      refine post_ret rfl rfl ?_
      first | exact absurd rfl hb33 | exact absurd (by have h2 := lives11_stand; unfold lives11l at h2; rw [h2]; rfl) hb33 | (exfalso; simp_all)
  | false =>
    replace hb23 := bf hb23
    refine s_skip (wan_f (dj := 16) rfl rfl rfl) (rfl : _ = [_, _, _, _, _, _, _, _, _, _, _, _, _, _, _, _, _, _, _, _, _, _, _, _, _, _, _, _, _, _, _, _, _, _, _, _, _, _, _]) ?_
    refine s_skip (wan_f (dj := 16) rfl rfl rfl) (rfl : _ = [_, _, _, _, _, _, _, _, _, _, _, _, _, _, _, _, _, _, _, _, _, _, _, _, _, _, _, _, _, _, _, _, _, _, _, _, _, _, _]) ?_
    refine s_skip (wan_f (dj := 16) rfl rfl rfl) (rfl : _ = [_, _, _, _, _, _, _, _, _, _, _, _, _, _, _, _, _, _, _, _, _, _, _, _, _, _, _, _, _, _, _, _, _, _, _, _, _, _, _]) ?_
    refine s_skip (wan_f (dj := 16) rfl rfl rfl) (rfl : _ = [_, _, _, _, _, _, _, _, _, _, _, _, _, _, _, _, _, _, _, _, _, _, _, _, _, _, _, _, _, _, _, _, _, _, _, _, _, _, _]) ?_
    refine s_skip (wan_f (dj := 16) rfl rfl rfl) (rfl : _ = [_, _, _, _, _, _, _, _, _, _, _, _, _, _, _, _, _, _, _, _, _, _, _, _, _, _, _, _, _, _, _, _, _, _, _, _, _, _, _]) ?_
    refine s_val (v := (.bool false)) rfl (r_pick rfl rfl) (rfl : _ = [_, _, _, _, _, _, _, _, _, _, _, _, _, _, _, _, _, _, _, _, _, _, _, _, _, _, _, _, _, _, _, _, _, _, _, _, _, _, _]) ?_
    refine s_val (v := (.bool false)) rfl (r_move rfl) (rfl : _ = [_, _, _, _, _, _, _, _, _, _, _, _, _, _, _, _, _, _, _, _, _, _, _, _, _, _, _, _, _, _, _, _, _, _, _, _, _, _, _]) ?_
    refine s_skip (wan_f (dj := 23) rfl rfl rfl) (rfl : _ = [_, _, _, _, _, _, _, _, _, _, _, _, _, _, _, _, _, _, _, _, _, _, _, _, _, _, _, _, _, _, _, _, _, _, _, _, _, _, _]) ?_
    refine s_skip (wan_f (dj := 23) rfl rfl rfl) (rfl : _ = [_, _, _, _, _, _, _, _, _, _, _, _, _, _, _, _, _, _, _, _, _, _, _, _, _, _, _, _, _, _, _, _, _, _, _, _, _, _, _]) ?_
    refine s_skip (wan_f (dj := 23) rfl rfl rfl) (rfl : _ = [_, _, _, _, _, _, _, _, _, _, _, _, _, _, _, _, _, _, _, _, _, _, _, _, _, _, _, _, _, _, _, _, _, _, _, _, _, _, _]) ?_
    refine s_val (v := (.bool false)) rfl (r_pick rfl rfl) (rfl : _ = [_, _, _, _, _, _, _, _, _, _, _, _, _, _, _, _, _, _, _, _, _, _, _, _, _, _, _, _, _, _, _, _, _, _, _, _, _, _, _]) ?_
    refine s_val (v := (.bool false)) rfl (r_move rfl) (rfl : _ = [_, _, _, _, _, _, _, _, _, _, _, _, _, _, _, _, _, _, _, _, _, _, _, _, _, _, _, _, _, _, _, _, _, _, _, _, _, _, _]) ?_
    refine s_skip (wan_f (dj := 28) rfl rfl rfl) (rfl : _ = [_, _, _, _, _, _, _, _, _, _, _, _, _, _, _, _, _, _, _, _, _, _, _, _, _, _, _, _, _, _, _, _, _, _, _, _, _, _, _]) ?_
    refine s_skip (wan_f (dj := 28) rfl rfl rfl) (rfl : _ = [_, _, _, _, _, _, _, _, _, _, _, _, _, _, _, _, _, _, _, _, _, _, _, _, _, _, _, _, _, _, _, _, _, _, _, _, _, _, _]) ?_
    refine s_skip (wan_f (dj := 28) rfl rfl rfl) (rfl : _ = [_, _, _, _, _, _, _, _, _, _, _, _, _, _, _, _, _, _, _, _, _, _, _, _, _, _, _, _, _, _, _, _, _, _, _, _, _, _, _]) ?_
    refine s_skip (wan_f (dj := 28) rfl rfl rfl) (rfl : _ = [_, _, _, _, _, _, _, _, _, _, _, _, _, _, _, _, _, _, _, _, _, _, _, _, _, _, _, _, _, _, _, _, _, _, _, _, _, _, _]) ?_
    refine s_val (v := (.bool false)) rfl (r_pick rfl rfl) (rfl : _ = [_, _, _, _, _, _, _, _, _, _, _, _, _, _, _, _, _, _, _, _, _, _, _, _, _, _, _, _, _, _, _, _, _, _, _, _, _, _, _]) ?_
    refine s_val (v := (.bool false)) rfl (r_move rfl) (rfl : _ = [_, _, _, _, _, _, _, _, _, _, _, _, _, _, _, _, _, _, _, _, _, _, _, _, _, _, _, _, _, _, _, _, _, _, _, _, _, _, _]) ?_
    refine s_skip (wan_f (dj := 34) rfl rfl rfl) (rfl : _ = [_, _, _, _, _, _, _, _, _, _, _, _, _, _, _, _, _, _, _, _, _, _, _, _, _, _, _, _, _, _, _, _, _, _, _, _, _, _, _]) ?_
    refine s_skip (wan_f (dj := 34) rfl rfl rfl) (rfl : _ = [_, _, _, _, _, _, _, _, _, _, _, _, _, _, _, _, _, _, _, _, _, _, _, _, _, _, _, _, _, _, _, _, _, _, _, _, _, _, _]) ?_
    refine s_skip (wan_f (dj := 34) rfl rfl rfl) (rfl : _ = [_, _, _, _, _, _, _, _, _, _, _, _, _, _, _, _, _, _, _, _, _, _, _, _, _, _, _, _, _, _, _, _, _, _, _, _, _, _, _]) ?_
    refine s_val (v := (.bool false)) rfl (r_pick rfl rfl) (rfl : _ = [_, _, _, _, _, _, _, _, _, _, _, _, _, _, _, _, _, _, _, _, _, _, _, _, _, _, _, _, _, _, _, _, _, _, _, _, _, _, _]) ?_
    refine s_val (v := (.bool false)) rfl (r_assign rfl) (rfl : _ = [_, _, _, _, _, _, _, _, _, _, _, _, _, _, _, _, _, _, _, _, _, _, _, _, _, _, _, _, _, _, _, _, _, _, _, _, _, _, _]) ?_
    refine s_nil rfl ?_
    refine x_seq ?_
    refine c_ret ?_
    refine post_ret rfl rfl ?_
    first | exact absurd rfl hb23 | exact absurd (by have h2 := lives11_stand; unfold lives11l at h2; rw [h2]; rfl) hb23 | (exfalso; simp_all)

end Go.Proofs.Ytailhdcackkegaa.Wd

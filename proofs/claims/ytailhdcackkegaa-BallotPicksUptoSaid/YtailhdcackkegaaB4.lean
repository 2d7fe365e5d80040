/- pannierlaw15.lives, pannierlaw15.BallotPicks: they tell true. -/
import Derived.Test.YtailhdcackkegaaB2
import Derived.Test.YtailhdcackkegaaB3
namespace Go.Proofs.Ytailhdcackkegaa.Wd
open Go.RowKit
set_option linter.unusedVariables false
set_option linter.unusedSimpArgs false

theorem lives15_c {w : World} :
    CallsV Try.prog 17 #[] w (fun r w' => r = .bool true ∧ Bel w w') := by
  have hb := Bel.refl w
  refine callsV_of Try.func17 (m := 65) Try.ntmps17 rfl rfl (l := [undef, undef, undef, undef, undef, undef, undef, undef, undef, undef, undef, undef, undef, undef, undef, undef, undef, undef, undef, undef, undef, undef, undef, undef, undef, undef, undef, undef, undef, undef, undef, undef, undef, undef, undef, undef, undef, undef, undef, undef, undef, undef, undef, undef, undef, undef, undef, undef, undef, undef, undef, undef, undef, undef, undef, undef, undef, undef, undef, undef, undef, undef, undef, undef, undef]) rfl ?_
  refine c_seq ?_
  refine c_region ?_
  refine s_val (v := (.bool false)) rfl (r_assign rfl) (rfl : _ = [_, _, _, _, _, _, _, _, _, _, _, _, _, _, _, _, _, _, _, _, _, _, _, _, _, _, _, _, _, _, _, _, _, _, _, _, _, _, _, _, _, _, _, _, _, _, _, _, _, _, _, _, _, _, _, _, _, _, _, _, _, _, _, _, _]) ?_
  refine s_nil rfl ?_
  refine x_seq ?_
  refine c_seq ?_
  refine c_region ?_
  refine s_val rfl (r_build (v := (.agg #[.int .i64 1, .int .i64 2])) rfl (by kernel_rfl)) (rfl : _ = [_, _, _, _, _, _, _, _, _, _, _, _, _, _, _, _, _, _, _, _, _, _, _, _, _, _, _, _, _, _, _, _, _, _, _, _, _, _, _, _, _, _, _, _, _, _, _, _, _, _, _, _, _, _, _, _, _, _, _, _, _, _, _, _, _]) ?_
  refine s_val rfl (r_build (v := (.agg #[.string ⟨#[98]⟩, .string ⟨#[]⟩, .int .i64 0, .slice none 0 0])) rfl (by kernel_rfl)) (rfl : _ = [_, _, _, _, _, _, _, _, _, _, _, _, _, _, _, _, _, _, _, _, _, _, _, _, _, _, _, _, _, _, _, _, _, _, _, _, _, _, _, _, _, _, _, _, _, _, _, _, _, _, _, _, _, _, _, _, _, _, _, _, _, _, _, _, _]) ?_
  refine s_val rfl (r_build (v := (.agg #[.bool false, .string ⟨#[98]⟩, .string ⟨#[]⟩, .int .i64 0, .slice none 0 0])) rfl (by kernel_rfl)) (rfl : _ = [_, _, _, _, _, _, _, _, _, _, _, _, _, _, _, _, _, _, _, _, _, _, _, _, _, _, _, _, _, _, _, _, _, _, _, _, _, _, _, _, _, _, _, _, _, _, _, _, _, _, _, _, _, _, _, _, _, _, _, _, _, _, _, _, _]) ?_
  refine s_val rfl (r_build (v := (.agg #[.int .i64 2, .int .i64 1, .int .i64 2, .bool false, .string ⟨#[98]⟩, .string ⟨#[]⟩, .int .i64 0, .slice none 0 0])) rfl (by kernel_rfl)) (rfl : _ = [_, _, _, _, _, _, _, _, _, _, _, _, _, _, _, _, _, _, _, _, _, _, _, _, _, _, _, _, _, _, _, _, _, _, _, _, _, _, _, _, _, _, _, _, _, _, _, _, _, _, _, _, _, _, _, _, _, _, _, _, _, _, _, _, _]) ?_
  refine s_val rfl (r_build (v := (.agg #[.int .i64 1, .int .i64 0])) rfl (by kernel_rfl)) (rfl : _ = [_, _, _, _, _, _, _, _, _, _, _, _, _, _, _, _, _, _, _, _, _, _, _, _, _, _, _, _, _, _, _, _, _, _, _, _, _, _, _, _, _, _, _, _, _, _, _, _, _, _, _, _, _, _, _, _, _, _, _, _, _, _, _, _, _]) ?_
  refine s_val rfl (r_build (v := (.agg #[.string ⟨#[97]⟩, .string ⟨#[]⟩, .int .i64 0, .slice none 0 0])) rfl (by kernel_rfl)) (rfl : _ = [_, _, _, _, _, _, _, _, _, _, _, _, _, _, _, _, _, _, _, _, _, _, _, _, _, _, _, _, _, _, _, _, _, _, _, _, _, _, _, _, _, _, _, _, _, _, _, _, _, _, _, _, _, _, _, _, _, _, _, _, _, _, _, _, _]) ?_
  refine s_val rfl (r_build (v := (.agg #[.bool false, .string ⟨#[97]⟩, .string ⟨#[]⟩, .int .i64 0, .slice none 0 0])) rfl (by kernel_rfl)) (rfl : _ = [_, _, _, _, _, _, _, _, _, _, _, _, _, _, _, _, _, _, _, _, _, _, _, _, _, _, _, _, _, _, _, _, _, _, _, _, _, _, _, _, _, _, _, _, _, _, _, _, _, _, _, _, _, _, _, _, _, _, _, _, _, _, _, _, _]) ?_
  refine s_val rfl (r_build (v := (.agg #[.int .i64 2, .int .i64 1, .int .i64 0, .bool false, .string ⟨#[97]⟩, .string ⟨#[]⟩, .int .i64 0, .slice none 0 0])) rfl (by kernel_rfl)) (rfl : _ = [_, _, _, _, _, _, _, _, _, _, _, _, _, _, _, _, _, _, _, _, _, _, _, _, _, _, _, _, _, _, _, _, _, _, _, _, _, _, _, _, _, _, _, _, _, _, _, _, _, _, _, _, _, _, _, _, _, _, _, _, _, _, _, _, _]) ?_
  refine s_buildSlice (cs := [.int .i64 2, .int .i64 1, .int .i64 2, .bool false, .string ⟨#[98]⟩, .string ⟨#[]⟩, .int .i64 0, .slice none 0 0, .int .i64 2, .int .i64 1, .int .i64 0, .bool false, .string ⟨#[97]⟩, .string ⟨#[]⟩, .int .i64 0, .slice none 0 0]) (e := 75) 22 2 _ rfl rfl (by kernel_rfl) ?_
  intro a1 w2 he3 hB4 hc5 hz6
  refine norm (rfl : _ = [_, _, _, _, _, _, _, _, _, _, _, _, _, _, _, _, _, _, _, _, _, _, _, _, _, _, _, _, _, _, _, _, _, _, _, _, _, _, _, _, _, _, _, _, _, _, _, _, _, _, _, _, _, _, _, _, _, _, _, _, _, _, _, _, _]) ?_
  have hs7 := hc5.size
  replace hb := hb.chg hc5 (by omega)
  refine s_val (v := (.slice (some ⟨a1, 0, none⟩) 2 2)) rfl (r_assign rfl) (rfl : _ = [_, _, _, _, _, _, _, _, _, _, _, _, _, _, _, _, _, _, _, _, _, _, _, _, _, _, _, _, _, _, _, _, _, _, _, _, _, _, _, _, _, _, _, _, _, _, _, _, _, _, _, _, _, _, _, _, _, _, _, _, _, _, _, _, _]) ?_
  refine s_nil rfl ?_
  refine x_seq ?_
  refine c_seq ?_
  refine c_region ?_
  refine s_val (v := (.slice (some ⟨a1, 0, none⟩) 2 2)) rfl (r_move rfl) (rfl : _ = [_, _, _, _, _, _, _, _, _, _, _, _, _, _, _, _, _, _, _, _, _, _, _, _, _, _, _, _, _, _, _, _, _, _, _, _, _, _, _, _, _, _, _, _, _, _, _, _, _, _, _, _, _, _, _, _, _, _, _, _, _, _, _, _, _]) ?_
  have hO8 : OwnX kVot 75 0 a1 (a1 + 1) w2 (.slice (some ⟨a1, 0, none⟩) 2 2) [⟨2, ⟨1, 2⟩, ⟨false, ⟨⟨#[98]⟩, ⟨#[]⟩, 0, []⟩⟩⟩, ⟨2, ⟨1, 0⟩, ⟨false, ⟨⟨#[97]⟩, ⟨#[]⟩, 0, []⟩⟩⟩] := OwnX.of_bx (ok := (fun _ => False)) hB4 (Flat.snoc (cs := [.int .i64 2, .int .i64 1, .int .i64 2, .bool false, .string ⟨#[98]⟩, .string ⟨#[]⟩, .int .i64 0, .slice none 0 0]) (xs := [⟨2, ⟨1, 2⟩, ⟨false, ⟨⟨#[98]⟩, ⟨#[]⟩, 0, []⟩⟩⟩]) (c := [.int .i64 2, .int .i64 1, .int .i64 0, .bool false, .string ⟨#[97]⟩, .string ⟨#[]⟩, .int .i64 0, .slice none 0 0]) (x := ⟨2, ⟨1, 0⟩, ⟨false, ⟨⟨#[97]⟩, ⟨#[]⟩, 0, []⟩⟩⟩) (flat_one (kVot_cells.2 ⟨_, rfl, (Sl.nil _ _ _)⟩)) (kVot_cells.2 ⟨_, rfl, (Sl.nil _ _ _)⟩)) rfl (by simp [lim]) (by omega) (Nat.le_refl _) (by omega) (by omega) (fun _ hb _ => hb.elim)
  refine s_call 13 _ _ (by kernel_rfl) rfl rfl (pick_c (best := ⟨2, ⟨1, 2⟩, ⟨false, ⟨⟨#[98]⟩, ⟨#[]⟩, 0, []⟩⟩⟩) (found := true) hO8.sl 2 (by decide)) ?_
  rintro _ w10 ⟨⟨d9, rfl, hd11⟩, hb12⟩
  refine norm (rfl : _ = [_, _, _, _, _, _, _, _, _, _, _, _, _, _, _, _, _, _, _, _, _, _, _, _, _, _, _, _, _, _, _, _, _, _, _, _, _, _, _, _, _, _, _, _, _, _, _, _, _, _, _, _, _, _, _, _, _, _, _, _, _, _, _, _, _]) ?_
  have hc13 := Chg.of_bel hb12
  have hs14 := hc13.size
  replace hb := hb.chg hc13 (by omega)
  replace hO8 := hO8.chg hc13 (by omega)
  refine s_val (v := (.tuple #[(.agg #[.bool false, .string ⟨#[98]⟩, .string ⟨#[]⟩, .int .i64 0, d9]), (.bool true)])) rfl (r_move rfl) (rfl : _ = [_, _, _, _, _, _, _, _, _, _, _, _, _, _, _, _, _, _, _, _, _, _, _, _, _, _, _, _, _, _, _, _, _, _, _, _, _, _, _, _, _, _, _, _, _, _, _, _, _, _, _, _, _, _, _, _, _, _, _, _, _, _, _, _, _]) ?_
  refine s_val (v := (.agg #[.bool false, .string ⟨#[98]⟩, .string ⟨#[]⟩, .int .i64 0, d9])) rfl (r_extract rfl rfl) (rfl : _ = [_, _, _, _, _, _, _, _, _, _, _, _, _, _, _, _, _, _, _, _, _, _, _, _, _, _, _, _, _, _, _, _, _, _, _, _, _, _, _, _, _, _, _, _, _, _, _, _, _, _, _, _, _, _, _, _, _, _, _, _, _, _, _, _, _]) ?_
  refine s_val (v := (.bool true)) rfl (r_extract rfl rfl) (rfl : _ = [_, _, _, _, _, _, _, _, _, _, _, _, _, _, _, _, _, _, _, _, _, _, _, _, _, _, _, _, _, _, _, _, _, _, _, _, _, _, _, _, _, _, _, _, _, _, _, _, _, _, _, _, _, _, _, _, _, _, _, _, _, _, _, _, _]) ?_
  refine s_alloc (z := (.agg #[.bool false, .string ⟨#[]⟩, .string ⟨#[]⟩, .int .i64 0, .slice none 0 0])) 27 (by kernel_rfl) rfl ?_
  intro a15 w16 he17 hB18 hc19 hz20
  refine norm (rfl : _ = [_, _, _, _, _, _, _, _, _, _, _, _, _, _, _, _, _, _, _, _, _, _, _, _, _, _, _, _, _, _, _, _, _, _, _, _, _, _, _, _, _, _, _, _, _, _, _, _, _, _, _, _, _, _, _, _, _, _, _, _, _, _, _, _, _]) ?_
  have hs21 := hc19.size
  replace hb := hb.chg hc19 (by omega)
  replace hO8 := hO8.chg hc19 (by omega)
  replace hd11 := hd11.chg hc19 (by omega)
  refine s_store (b := a15) (o := 0) (vs := [.bool false, .string ⟨#[98]⟩, .string ⟨#[]⟩, .int .i64 0, d9]) (cs := [.bool false, .string ⟨#[]⟩, .string ⟨#[]⟩, .int .i64 0, .slice none 0 0]) (cs' := [.bool false, .string ⟨#[98]⟩, .string ⟨#[]⟩, .int .i64 0, d9]) 27 _ _ rfl (v := (.agg #[.bool false, .string ⟨#[98]⟩, .string ⟨#[]⟩, .int .i64 0, d9])) rfl rfl rfl hB18 (by kernel_rfl) ⟨rfl, rfl, rfl, rfl, hd11.one, trivial⟩ (by simp) rfl ?_
  intro w22 hB23 hc24 hz25
  have hs26 := hc24.size
  replace hb := hb.chg hc24 (by omega)
  replace hO8 := hO8.chg hc24 (by omega)
  replace hd11 := hd11.chg hc24 (by omega)
  refine s_val (v := (.bool true)) rfl (r_assign rfl) (rfl : _ = [_, _, _, _, _, _, _, _, _, _, _, _, _, _, _, _, _, _, _, _, _, _, _, _, _, _, _, _, _, _, _, _, _, _, _, _, _, _, _, _, _, _, _, _, _, _, _, _, _, _, _, _, _, _, _, _, _, _, _, _, _, _, _, _, _]) ?_
  refine s_nil rfl ?_
  refine x_seq ?_
  refine c_seq ?_
  refine c_region ?_
  refine s_call 48 _ _ (by kernel_rfl) rfl rfl new_c ?_
  rintro _ w28 ⟨b27, rfl, hlo29, hhi30, hV31, hb32⟩
  refine norm (rfl : _ = [_, _, _, _, _, _, _, _, _, _, _, _, _, _, _, _, _, _, _, _, _, _, _, _, _, _, _, _, _, _, _, _, _, _, _, _, _, _, _, _, _, _, _, _, _, _, _, _, _, _, _, _, _, _, _, _, _, _, _, _, _, _, _, _, _]) ?_
  have hc33 := Chg.of_bel hb32
  have hs34 := hc33.size
  replace hb := hb.chg hc33 (by omega)
  replace hO8 := hO8.chg hc33 (by omega)
  replace hd11 := hd11.chg hc33 (by omega)
  replace hB23 := hB23.chg hc33 (by omega)
  refine s_val (v := (.tuple #[(.pointer (some ⟨b27, 0, none⟩)), (.int .i64 0)])) rfl (r_move rfl) (rfl : _ = [_, _, _, _, _, _, _, _, _, _, _, _, _, _, _, _, _, _, _, _, _, _, _, _, _, _, _, _, _, _, _, _, _, _, _, _, _, _, _, _, _, _, _, _, _, _, _, _, _, _, _, _, _, _, _, _, _, _, _, _, _, _, _, _, _]) ?_
  refine s_val (v := (.pointer (some ⟨b27, 0, none⟩))) rfl (r_extract rfl rfl) (rfl : _ = [_, _, _, _, _, _, _, _, _, _, _, _, _, _, _, _, _, _, _, _, _, _, _, _, _, _, _, _, _, _, _, _, _, _, _, _, _, _, _, _, _, _, _, _, _, _, _, _, _, _, _, _, _, _, _, _, _, _, _, _, _, _, _, _, _]) ?_
  refine s_val (v := (.int .i64 0)) rfl (r_extract rfl rfl) (rfl : _ = [_, _, _, _, _, _, _, _, _, _, _, _, _, _, _, _, _, _, _, _, _, _, _, _, _, _, _, _, _, _, _, _, _, _, _, _, _, _, _, _, _, _, _, _, _, _, _, _, _, _, _, _, _, _, _, _, _, _, _, _, _, _, _, _, _]) ?_
  refine s_val (v := (.pointer (some ⟨b27, 0, none⟩))) rfl (r_assign rfl) (rfl : _ = [_, _, _, _, _, _, _, _, _, _, _, _, _, _, _, _, _, _, _, _, _, _, _, _, _, _, _, _, _, _, _, _, _, _, _, _, _, _, _, _, _, _, _, _, _, _, _, _, _, _, _, _, _, _, _, _, _, _, _, _, _, _, _, _, _]) ?_
  refine s_val (v := (.int .i64 0)) rfl (r_assign rfl) (rfl : _ = [_, _, _, _, _, _, _, _, _, _, _, _, _, _, _, _, _, _, _, _, _, _, _, _, _, _, _, _, _, _, _, _, _, _, _, _, _, _, _, _, _, _, _, _, _, _, _, _, _, _, _, _, _, _, _, _, _, _, _, _, _, _, _, _, _]) ?_
  refine s_nil rfl ?_
  refine x_seq ?_
  refine c_seq ?_
  refine c_region ?_
  refine s_val (v := (.bool true)) rfl (r_move rfl) (rfl : _ = [_, _, _, _, _, _, _, _, _, _, _, _, _, _, _, _, _, _, _, _, _, _, _, _, _, _, _, _, _, _, _, _, _, _, _, _, _, _, _, _, _, _, _, _, _, _, _, _, _, _, _, _, _, _, _, _, _, _, _, _, _, _, _, _, _]) ?_
  refine s_val (v := (.bool true)) rfl (r_move rfl) (rfl : _ = [_, _, _, _, _, _, _, _, _, _, _, _, _, _, _, _, _, _, _, _, _, _, _, _, _, _, _, _, _, _, _, _, _, _, _, _, _, _, _, _, _, _, _, _, _, _, _, _, _, _, _, _, _, _, _, _, _, _, _, _, _, _, _, _, _]) ?_
  refine s_val (v := (.pointer (some ⟨a15, 1, none⟩))) (wan_t (dj := 25) rfl rfl) (r_field (k := 1) (o := 0) (by kernel_rfl) rfl) (rfl : _ = [_, _, _, _, _, _, _, _, _, _, _, _, _, _, _, _, _, _, _, _, _, _, _, _, _, _, _, _, _, _, _, _, _, _, _, _, _, _, _, _, _, _, _, _, _, _, _, _, _, _, _, _, _, _, _, _, _, _, _, _, _, _, _, _, _]) ?_
  refine s_val (v := (.pointer (some ⟨a15, 1, none⟩))) (wan_t (dj := 25) rfl rfl) (r_field (k := 0) (o := 1) (by kernel_rfl) rfl) (rfl : _ = [_, _, _, _, _, _, _, _, _, _, _, _, _, _, _, _, _, _, _, _, _, _, _, _, _, _, _, _, _, _, _, _, _, _, _, _, _, _, _, _, _, _, _, _, _, _, _, _, _, _, _, _, _, _, _, _, _, _, _, _, _, _, _, _, _]) ?_
  refine s_val (v := (.string ⟨#[98]⟩)) (wan_t (dj := 25) rfl rfl) (r_load rfl (Ld.one Try.underlying9 rfl (hB23.cell (i := 1) rfl))) (rfl : _ = [_, _, _, _, _, _, _, _, _, _, _, _, _, _, _, _, _, _, _, _, _, _, _, _, _, _, _, _, _, _, _, _, _, _, _, _, _, _, _, _, _, _, _, _, _, _, _, _, _, _, _, _, _, _, _, _, _, _, _, _, _, _, _, _, _]) ?_
  refine s_val (v := (.bool true)) (wan_t (dj := 25) rfl rfl) (r_eqs_same rfl rfl rfl) (rfl : _ = [_, _, _, _, _, _, _, _, _, _, _, _, _, _, _, _, _, _, _, _, _, _, _, _, _, _, _, _, _, _, _, _, _, _, _, _, _, _, _, _, _, _, _, _, _, _, _, _, _, _, _, _, _, _, _, _, _, _, _, _, _, _, _, _, _]) ?_
  refine s_val (v := (.bool true)) rfl (r_pick rfl rfl) (rfl : _ = [_, _, _, _, _, _, _, _, _, _, _, _, _, _, _, _, _, _, _, _, _, _, _, _, _, _, _, _, _, _, _, _, _, _, _, _, _, _, _, _, _, _, _, _, _, _, _, _, _, _, _, _, _, _, _, _, _, _, _, _, _, _, _, _, _]) ?_
  refine s_val (v := (.bool true)) rfl (r_move rfl) (rfl : _ = [_, _, _, _, _, _, _, _, _, _, _, _, _, _, _, _, _, _, _, _, _, _, _, _, _, _, _, _, _, _, _, _, _, _, _, _, _, _, _, _, _, _, _, _, _, _, _, _, _, _, _, _, _, _, _, _, _, _, _, _, _, _, _, _, _]) ?_
  refine s_val (v := (.int .i64 0)) (wan_t (dj := 31) rfl rfl) (r_move rfl) (rfl : _ = [_, _, _, _, _, _, _, _, _, _, _, _, _, _, _, _, _, _, _, _, _, _, _, _, _, _, _, _, _, _, _, _, _, _, _, _, _, _, _, _, _, _, _, _, _, _, _, _, _, _, _, _, _, _, _, _, _, _, _, _, _, _, _, _, _]) ?_
  refine s_val (v := (.bool true)) (wan_t (dj := 31) rfl rfl) (r_eqi (a := 0) (b := 0) rfl rfl) (rfl : _ = [_, _, _, _, _, _, _, _, _, _, _, _, _, _, _, _, _, _, _, _, _, _, _, _, _, _, _, _, _, _, _, _, _, _, _, _, _, _, _, _, _, _, _, _, _, _, _, _, _, _, _, _, _, _, _, _, _, _, _, _, _, _, _, _, _]) ?_
  refine s_val (v := (.bool true)) rfl (r_pick rfl rfl) (rfl : _ = [_, _, _, _, _, _, _, _, _, _, _, _, _, _, _, _, _, _, _, _, _, _, _, _, _, _, _, _, _, _, _, _, _, _, _, _, _, _, _, _, _, _, _, _, _, _, _, _, _, _, _, _, _, _, _, _, _, _, _, _, _, _, _, _, _]) ?_
  refine s_val (v := (.bool true)) rfl (r_move rfl) (rfl : _ = [_, _, _, _, _, _, _, _, _, _, _, _, _, _, _, _, _, _, _, _, _, _, _, _, _, _, _, _, _, _, _, _, _, _, _, _, _, _, _, _, _, _, _, _, _, _, _, _, _, _, _, _, _, _, _, _, _, _, _, _, _, _, _, _, _]) ?_
  refine s_val (v := (.pointer (some ⟨b27, 0, none⟩))) (wan_t (dj := 35) rfl rfl) (r_move rfl) (rfl : _ = [_, _, _, _, _, _, _, _, _, _, _, _, _, _, _, _, _, _, _, _, _, _, _, _, _, _, _, _, _, _, _, _, _, _, _, _, _, _, _, _, _, _, _, _, _, _, _, _, _, _, _, _, _, _, _, _, _, _, _, _, _, _, _, _, _]) ?_
  refine s_val (v := (.bool true)) (wan_t (dj := 35) rfl rfl) (r_nep0 Try.underlying79 rfl) (rfl : _ = [_, _, _, _, _, _, _, _, _, _, _, _, _, _, _, _, _, _, _, _, _, _, _, _, _, _, _, _, _, _, _, _, _, _, _, _, _, _, _, _, _, _, _, _, _, _, _, _, _, _, _, _, _, _, _, _, _, _, _, _, _, _, _, _, _]) ?_
  refine s_val (v := (.bool true)) rfl (r_pick rfl rfl) (rfl : _ = [_, _, _, _, _, _, _, _, _, _, _, _, _, _, _, _, _, _, _, _, _, _, _, _, _, _, _, _, _, _, _, _, _, _, _, _, _, _, _, _, _, _, _, _, _, _, _, _, _, _, _, _, _, _, _, _, _, _, _, _, _, _, _, _, _]) ?_
  refine s_val (v := (.bool true)) rfl (r_move rfl) (rfl : _ = [_, _, _, _, _, _, _, _, _, _, _, _, _, _, _, _, _, _, _, _, _, _, _, _, _, _, _, _, _, _, _, _, _, _, _, _, _, _, _, _, _, _, _, _, _, _, _, _, _, _, _, _, _, _, _, _, _, _, _, _, _, _, _, _, _]) ?_
  refine s_val (v := (.pointer (some ⟨b27, 0, none⟩))) (wan_t (dj := 39) rfl rfl) (r_move rfl) (rfl : _ = [_, _, _, _, _, _, _, _, _, _, _, _, _, _, _, _, _, _, _, _, _, _, _, _, _, _, _, _, _, _, _, _, _, _, _, _, _, _, _, _, _, _, _, _, _, _, _, _, _, _, _, _, _, _, _, _, _, _, _, _, _, _, _, _, _]) ?_
  refine s_call 49 _ _ (by kernel_rfl) (wan_t (dj := 39) rfl rfl) rfl (add_c1ff hV31) ?_
  rintro _ w35 ⟨rfl, hV36, hc37⟩
  refine norm (rfl : _ = [_, _, _, _, _, _, _, _, _, _, _, _, _, _, _, _, _, _, _, _, _, _, _, _, _, _, _, _, _, _, _, _, _, _, _, _, _, _, _, _, _, _, _, _, _, _, _, _, _, _, _, _, _, _, _, _, _, _, _, _, _, _, _, _, _]) ?_
  have hs38 := hc37.size
  replace hb := hb.chg hc37 (by omega)
  replace hO8 := hO8.chg hc37 (by omega)
  replace hd11 := hd11.chg hc37 (by omega)
  replace hB23 := hB23.chg hc37 (by omega)
  refine s_val (v := (.bool true)) rfl (r_pick rfl rfl) (rfl : _ = [_, _, _, _, _, _, _, _, _, _, _, _, _, _, _, _, _, _, _, _, _, _, _, _, _, _, _, _, _, _, _, _, _, _, _, _, _, _, _, _, _, _, _, _, _, _, _, _, _, _, _, _, _, _, _, _, _, _, _, _, _, _, _, _, _]) ?_
  refine s_val (v := (.bool true)) rfl (r_move rfl) (rfl : _ = [_, _, _, _, _, _, _, _, _, _, _, _, _, _, _, _, _, _, _, _, _, _, _, _, _, _, _, _, _, _, _, _, _, _, _, _, _, _, _, _, _, _, _, _, _, _, _, _, _, _, _, _, _, _, _, _, _, _, _, _, _, _, _, _, _]) ?_
  refine s_val (v := (.pointer (some ⟨b27, 0, none⟩))) (wan_t (dj := 43) rfl rfl) (r_move rfl) (rfl : _ = [_, _, _, _, _, _, _, _, _, _, _, _, _, _, _, _, _, _, _, _, _, _, _, _, _, _, _, _, _, _, _, _, _, _, _, _, _, _, _, _, _, _, _, _, _, _, _, _, _, _, _, _, _, _, _, _, _, _, _, _, _, _, _, _, _]) ?_
  refine s_call 49 _ _ (by kernel_rfl) (wan_t (dj := 43) rfl rfl) rfl (add_c1ft hV36) ?_
  rintro _ w39 ⟨rfl, hV40, hc41⟩
  refine norm (rfl : _ = [_, _, _, _, _, _, _, _, _, _, _, _, _, _, _, _, _, _, _, _, _, _, _, _, _, _, _, _, _, _, _, _, _, _, _, _, _, _, _, _, _, _, _, _, _, _, _, _, _, _, _, _, _, _, _, _, _, _, _, _, _, _, _, _, _]) ?_
  have hs42 := hc41.size
  replace hb := hb.chg hc41 (by omega)
  replace hO8 := hO8.chg hc41 (by omega)
  replace hd11 := hd11.chg hc41 (by omega)
  replace hB23 := hB23.chg hc41 (by omega)
  refine s_val (wan_t (dj := 43) rfl rfl) (r_not rfl rfl) (rfl : _ = [_, _, _, _, _, _, _, _, _, _, _, _, _, _, _, _, _, _, _, _, _, _, _, _, _, _, _, _, _, _, _, _, _, _, _, _, _, _, _, _, _, _, _, _, _, _, _, _, _, _, _, _, _, _, _, _, _, _, _, _, _, _, _, _, _]) ?_
  refine s_val (v := (.bool true)) rfl (r_pick rfl rfl) (rfl : _ = [_, _, _, _, _, _, _, _, _, _, _, _, _, _, _, _, _, _, _, _, _, _, _, _, _, _, _, _, _, _, _, _, _, _, _, _, _, _, _, _, _, _, _, _, _, _, _, _, _, _, _, _, _, _, _, _, _, _, _, _, _, _, _, _, _]) ?_
  refine s_val (v := (.bool true)) rfl (r_move rfl) (rfl : _ = [_, _, _, _, _, _, _, _, _, _, _, _, _, _, _, _, _, _, _, _, _, _, _, _, _, _, _, _, _, _, _, _, _, _, _, _, _, _, _, _, _, _, _, _, _, _, _, _, _, _, _, _, _, _, _, _, _, _, _, _, _, _, _, _, _]) ?_
  refine s_val (v := (.pointer (some ⟨b27, 0, none⟩))) (wan_t (dj := 48) rfl rfl) (r_move rfl) (rfl : _ = [_, _, _, _, _, _, _, _, _, _, _, _, _, _, _, _, _, _, _, _, _, _, _, _, _, _, _, _, _, _, _, _, _, _, _, _, _, _, _, _, _, _, _, _, _, _, _, _, _, _, _, _, _, _, _, _, _, _, _, _, _, _, _, _, _]) ?_
  refine s_call 50 _ _ (by kernel_rfl) (wan_t (dj := 48) rfl rfl) rfl (enough_c_one hV40) ?_
  rintro _ w43 ⟨rfl, hb44⟩
  refine norm (rfl : _ = [_, _, _, _, _, _, _, _, _, _, _, _, _, _, _, _, _, _, _, _, _, _, _, _, _, _, _, _, _, _, _, _, _, _, _, _, _, _, _, _, _, _, _, _, _, _, _, _, _, _, _, _, _, _, _, _, _, _, _, _, _, _, _, _, _]) ?_
  have hc45 := Chg.of_bel hb44
  have hs46 := hc45.size
  replace hb := hb.chg hc45 (by omega)
  replace hO8 := hO8.chg hc45 (by omega)
  replace hd11 := hd11.chg hc45 (by omega)
  replace hB23 := hB23.chg hc45 (by omega)
  replace hV40 := hV40.chg hc45 (by omega)
  refine s_val (wan_t (dj := 48) rfl rfl) (r_not rfl rfl) (rfl : _ = [_, _, _, _, _, _, _, _, _, _, _, _, _, _, _, _, _, _, _, _, _, _, _, _, _, _, _, _, _, _, _, _, _, _, _, _, _, _, _, _, _, _, _, _, _, _, _, _, _, _, _, _, _, _, _, _, _, _, _, _, _, _, _, _, _]) ?_
  refine s_val (v := (.bool true)) rfl (r_pick rfl rfl) (rfl : _ = [_, _, _, _, _, _, _, _, _, _, _, _, _, _, _, _, _, _, _, _, _, _, _, _, _, _, _, _, _, _, _, _, _, _, _, _, _, _, _, _, _, _, _, _, _, _, _, _, _, _, _, _, _, _, _, _, _, _, _, _, _, _, _, _, _]) ?_
  refine s_val (v := (.bool true)) rfl (r_move rfl) (rfl : _ = [_, _, _, _, _, _, _, _, _, _, _, _, _, _, _, _, _, _, _, _, _, _, _, _, _, _, _, _, _, _, _, _, _, _, _, _, _, _, _, _, _, _, _, _, _, _, _, _, _, _, _, _, _, _, _, _, _, _, _, _, _, _, _, _, _]) ?_
  refine s_val (v := (.pointer (some ⟨b27, 0, none⟩))) (wan_t (dj := 53) rfl rfl) (r_move rfl) (rfl : _ = [_, _, _, _, _, _, _, _, _, _, _, _, _, _, _, _, _, _, _, _, _, _, _, _, _, _, _, _, _, _, _, _, _, _, _, _, _, _, _, _, _, _, _, _, _, _, _, _, _, _, _, _, _, _, _, _, _, _, _, _, _, _, _, _, _]) ?_
  refine s_call 49 _ _ (by kernel_rfl) (wan_t (dj := 53) rfl rfl) rfl (add_c0ft hV40) ?_
  rintro _ w47 ⟨rfl, hV48, hc49⟩
  refine norm (rfl : _ = [_, _, _, _, _, _, _, _, _, _, _, _, _, _, _, _, _, _, _, _, _, _, _, _, _, _, _, _, _, _, _, _, _, _, _, _, _, _, _, _, _, _, _, _, _, _, _, _, _, _, _, _, _, _, _, _, _, _, _, _, _, _, _, _, _]) ?_
  have hs50 := hc49.size
  replace hb := hb.chg hc49 (by omega)
  replace hO8 := hO8.chg hc49 (by omega)
  replace hd11 := hd11.chg hc49 (by omega)
  replace hB23 := hB23.chg hc49 (by omega)
  refine s_val (v := (.bool true)) rfl (r_pick rfl rfl) (rfl : _ = [_, _, _, _, _, _, _, _, _, _, _, _, _, _, _, _, _, _, _, _, _, _, _, _, _, _, _, _, _, _, _, _, _, _, _, _, _, _, _, _, _, _, _, _, _, _, _, _, _, _, _, _, _, _, _, _, _, _, _, _, _, _, _, _, _]) ?_
  refine s_val (v := (.bool true)) rfl (r_move rfl) (rfl : _ = [_, _, _, _, _, _, _, _, _, _, _, _, _, _, _, _, _, _, _, _, _, _, _, _, _, _, _, _, _, _, _, _, _, _, _, _, _, _, _, _, _, _, _, _, _, _, _, _, _, _, _, _, _, _, _, _, _, _, _, _, _, _, _, _, _]) ?_
  refine s_val (v := (.pointer (some ⟨b27, 0, none⟩))) (wan_t (dj := 57) rfl rfl) (r_move rfl) (rfl : _ = [_, _, _, _, _, _, _, _, _, _, _, _, _, _, _, _, _, _, _, _, _, _, _, _, _, _, _, _, _, _, _, _, _, _, _, _, _, _, _, _, _, _, _, _, _, _, _, _, _, _, _, _, _, _, _, _, _, _, _, _, _, _, _, _, _]) ?_
  refine s_call 50 _ _ (by kernel_rfl) (wan_t (dj := 57) rfl rfl) rfl (enough_c_two hV48) ?_
  rintro _ w51 ⟨rfl, hb52⟩
  refine norm (rfl : _ = [_, _, _, _, _, _, _, _, _, _, _, _, _, _, _, _, _, _, _, _, _, _, _, _, _, _, _, _, _, _, _, _, _, _, _, _, _, _, _, _, _, _, _, _, _, _, _, _, _, _, _, _, _, _, _, _, _, _, _, _, _, _, _, _, _]) ?_
  have hc53 := Chg.of_bel hb52
  have hs54 := hc53.size
  replace hb := hb.chg hc53 (by omega)
  replace hO8 := hO8.chg hc53 (by omega)
  replace hd11 := hd11.chg hc53 (by omega)
  replace hB23 := hB23.chg hc53 (by omega)
  replace hV48 := hV48.chg hc53 (by omega)
  refine s_val (v := (.bool true)) rfl (r_pick rfl rfl) (rfl : _ = [_, _, _, _, _, _, _, _, _, _, _, _, _, _, _, _, _, _, _, _, _, _, _, _, _, _, _, _, _, _, _, _, _, _, _, _, _, _, _, _, _, _, _, _, _, _, _, _, _, _, _, _, _, _, _, _, _, _, _, _, _, _, _, _, _]) ?_
  refine s_val (v := (.bool true)) rfl (r_move rfl) (rfl : _ = [_, _, _, _, _, _, _, _, _, _, _, _, _, _, _, _, _, _, _, _, _, _, _, _, _, _, _, _, _, _, _, _, _, _, _, _, _, _, _, _, _, _, _, _, _, _, _, _, _, _, _, _, _, _, _, _, _, _, _, _, _, _, _, _, _]) ?_
  refine s_call 51 _ _ (by kernel_rfl) (wan_t (dj := 61) rfl rfl) rfl (quorum_c5) ?_
  rintro _ w55 ⟨rfl, hb56⟩
  refine norm (rfl : _ = [_, _, _, _, _, _, _, _, _, _, _, _, _, _, _, _, _, _, _, _, _, _, _, _, _, _, _, _, _, _, _, _, _, _, _, _, _, _, _, _, _, _, _, _, _, _, _, _, _, _, _, _, _, _, _, _, _, _, _, _, _, _, _, _, _]) ?_
  have hc57 := Chg.of_bel hb56
  have hs58 := hc57.size
  replace hb := hb.chg hc57 (by omega)
  replace hO8 := hO8.chg hc57 (by omega)
  replace hd11 := hd11.chg hc57 (by omega)
  replace hB23 := hB23.chg hc57 (by omega)
  replace hV48 := hV48.chg hc57 (by omega)
  refine s_val (v := (.bool true)) (wan_t (dj := 61) rfl rfl) (r_eqi (a := 3) (b := 3) rfl rfl) (rfl : _ = [_, _, _, _, _, _, _, _, _, _, _, _, _, _, _, _, _, _, _, _, _, _, _, _, _, _, _, _, _, _, _, _, _, _, _, _, _, _, _, _, _, _, _, _, _, _, _, _, _, _, _, _, _, _, _, _, _, _, _, _, _, _, _, _, _]) ?_
  refine s_val (v := (.bool true)) rfl (r_pick rfl rfl) (rfl : _ = [_, _, _, _, _, _, _, _, _, _, _, _, _, _, _, _, _, _, _, _, _, _, _, _, _, _, _, _, _, _, _, _, _, _, _, _, _, _, _, _, _, _, _, _, _, _, _, _, _, _, _, _, _, _, _, _, _, _, _, _, _, _, _, _, _]) ?_
  refine s_val (v := (.bool true)) rfl (r_assign rfl) (rfl : _ = [_, _, _, _, _, _, _, _, _, _, _, _, _, _, _, _, _, _, _, _, _, _, _, _, _, _, _, _, _, _, _, _, _, _, _, _, _, _, _, _, _, _, _, _, _, _, _, _, _, _, _, _, _, _, _, _, _, _, _, _, _, _, _, _, _]) ?_
  refine s_nil rfl ?_
  refine x_seq ?_
  refine c_ret ?_
  refine post_ret rfl rfl ?_
  exact ⟨rfl, hb⟩

theorem ballotPicks_c {ok : Nat → Prop} {w : World} {v : Value} {l : List Vot} (hS : Sl kVot ok w v l) (slot : Int) :
    CallsV Try.prog 3 #[v, (.int .i64 slot)] w (fun r w' => r = .bool true ∧ Bel w w') := by
  have hb := Bel.refl w
  replace hS : Sl kVot (Rg w.heap.size 0 0) w v l := hS.weak (by decide) (fun b _ hl => .inl hl)
  have hSlim := lim_le hS.lim
  rcases hp : pickL slot l with ⟨best, found⟩
  refine callsV_of Try.func3 (m := 63) Try.ntmps3 rfl rfl (l := [v, .int .i64 slot, undef, undef, undef, undef, undef, undef, undef, undef, undef, undef, undef, undef, undef, undef, undef, undef, undef, undef, undef, undef, undef, undef, undef, undef, undef, undef, undef, undef, undef, undef, undef, undef, undef, undef, undef, undef, undef, undef, undef, undef, undef, undef, undef, undef, undef, undef, undef, undef, undef, undef, undef, undef, undef, undef, undef, undef, undef, undef, undef, undef, undef, undef, undef]) rfl ?_
  refine c_seq ?_
  refine c_region ?_
  refine s_val (v := (.bool false)) rfl (r_assign rfl) (rfl : _ = [_, _, _, _, _, _, _, _, _, _, _, _, _, _, _, _, _, _, _, _, _, _, _, _, _, _, _, _, _, _, _, _, _, _, _, _, _, _, _, _, _, _, _, _, _, _, _, _, _, _, _, _, _, _, _, _, _, _, _, _, _, _, _, _, _]) ?_
  refine s_nil rfl ?_
  refine x_seq ?_
  refine c_seq ?_
  refine c_region ?_
  refine s_buildSlice (cs := []) (e := 75) 22 0 _ rfl rfl (by kernel_rfl) ?_
  intro a1 w2 he3 hB4 hc5 hz6
  refine norm (rfl : _ = [_, _, _, _, _, _, _, _, _, _, _, _, _, _, _, _, _, _, _, _, _, _, _, _, _, _, _, _, _, _, _, _, _, _, _, _, _, _, _, _, _, _, _, _, _, _, _, _, _, _, _, _, _, _, _, _, _, _, _, _, _, _, _, _, _]) ?_
  have hs7 := hc5.size
  replace hb := hb.chg hc5 (by omega)
  refine s_val (v := v) rfl (r_move rfl) (rfl : _ = [_, _, _, _, _, _, _, _, _, _, _, _, _, _, _, _, _, _, _, _, _, _, _, _, _, _, _, _, _, _, _, _, _, _, _, _, _, _, _, _, _, _, _, _, _, _, _, _, _, _, _, _, _, _, _, _, _, _, _, _, _, _, _, _, _]) ?_
  have hO8 : OwnX kVot 75 w.heap.size a1 (a1 + 1) w2 (.slice (some ⟨a1, 0, none⟩) 0 0) [] := OwnX.of_bx (ok := (fun _ => False)) hB4 .nil rfl (by simp [lim]) (by omega) (Nat.le_refl _) (by omega) (by omega) (fun _ hb _ => hb.elim)
  obtain ⟨ad9, c10, ds11, hv12, hF13, had14⟩ := ((hS.at_ hb)).flat
  refine s_appendX kVot (z := (.agg #[.int .i64 0, .int .i64 0, .int .i64 0, .bool false, .string ⟨#[]⟩, .string ⟨#[]⟩, .int .i64 0, .slice none 0 0])) (bytes := 96) (ys := l) (ok2 := Rg w.heap.size 0 0) Try.underlying22 (by kernel_rfl) rfl (by decide) (by decide) (by decide) rfl hO8 hv12 hF13 had14 (by intro b hb hl; unfold Rg at hb; omega) (by simp [lim]; omega) ?_
  intro v15 w16 hO17 hc18
  refine norm (rfl : _ = [_, _, _, _, _, _, _, _, _, _, _, _, _, _, _, _, _, _, _, _, _, _, _, _, _, _, _, _, _, _, _, _, _, _, _, _, _, _, _, _, _, _, _, _, _, _, _, _, _, _, _, _, _, _, _, _, _, _, _, _, _, _, _, _, _]) ?_
  have hs19 := hc18.size
  replace hb := hb.chg hc18 (by omega)
  refine s_val (v := (.int .i64 slot)) rfl (r_move rfl) (rfl : _ = [_, _, _, _, _, _, _, _, _, _, _, _, _, _, _, _, _, _, _, _, _, _, _, _, _, _, _, _, _, _, _, _, _, _, _, _, _, _, _, _, _, _, _, _, _, _, _, _, _, _, _, _, _, _, _, _, _, _, _, _, _, _, _, _, _]) ?_
  refine s_call 13 _ _ (by kernel_rfl) rfl rfl (pick_c (best := best) (found := found) hO17.sl slot hp) ?_
  rintro _ w21 ⟨⟨d20, rfl, hd22⟩, hb23⟩
  refine norm (rfl : _ = [_, _, _, _, _, _, _, _, _, _, _, _, _, _, _, _, _, _, _, _, _, _, _, _, _, _, _, _, _, _, _, _, _, _, _, _, _, _, _, _, _, _, _, _, _, _, _, _, _, _, _, _, _, _, _, _, _, _, _, _, _, _, _, _, _]) ?_
  have hc24 := Chg.of_bel hb23
  have hs25 := hc24.size
  replace hb := hb.chg hc24 (by omega)
  replace hO17 := hO17.chg hc24 (by omega)
  refine s_val (v := (.tuple #[(.agg #[.bool best.ent.noop, .string best.ent.sl.token, .string best.ent.sl.cart, .int .i64 best.ent.sl.epoch, d20]), (.bool found)])) rfl (r_move rfl) (rfl : _ = [_, _, _, _, _, _, _, _, _, _, _, _, _, _, _, _, _, _, _, _, _, _, _, _, _, _, _, _, _, _, _, _, _, _, _, _, _, _, _, _, _, _, _, _, _, _, _, _, _, _, _, _, _, _, _, _, _, _, _, _, _, _, _, _, _]) ?_
  refine s_val (v := (.agg #[.bool best.ent.noop, .string best.ent.sl.token, .string best.ent.sl.cart, .int .i64 best.ent.sl.epoch, d20])) rfl (r_extract rfl rfl) (rfl : _ = [_, _, _, _, _, _, _, _, _, _, _, _, _, _, _, _, _, _, _, _, _, _, _, _, _, _, _, _, _, _, _, _, _, _, _, _, _, _, _, _, _, _, _, _, _, _, _, _, _, _, _, _, _, _, _, _, _, _, _, _, _, _, _, _, _]) ?_
  refine s_val (v := (.bool found)) rfl (r_extract rfl rfl) (rfl : _ = [_, _, _, _, _, _, _, _, _, _, _, _, _, _, _, _, _, _, _, _, _, _, _, _, _, _, _, _, _, _, _, _, _, _, _, _, _, _, _, _, _, _, _, _, _, _, _, _, _, _, _, _, _, _, _, _, _, _, _, _, _, _, _, _, _]) ?_
  refine s_alloc (z := (.agg #[.bool false, .string ⟨#[]⟩, .string ⟨#[]⟩, .int .i64 0, .slice none 0 0])) 27 (by kernel_rfl) rfl ?_
  intro a26 w27 he28 hB29 hc30 hz31
  refine norm (rfl : _ = [_, _, _, _, _, _, _, _, _, _, _, _, _, _, _, _, _, _, _, _, _, _, _, _, _, _, _, _, _, _, _, _, _, _, _, _, _, _, _, _, _, _, _, _, _, _, _, _, _, _, _, _, _, _, _, _, _, _, _, _, _, _, _, _, _]) ?_
  have hs32 := hc30.size
  replace hb := hb.chg hc30 (by omega)
  replace hO17 := hO17.chg hc30 (by omega)
  replace hd22 := hd22.chg hc30 (by omega)
  refine s_store (b := a26) (o := 0) (vs := [.bool best.ent.noop, .string best.ent.sl.token, .string best.ent.sl.cart, .int .i64 best.ent.sl.epoch, d20]) (cs := [.bool false, .string ⟨#[]⟩, .string ⟨#[]⟩, .int .i64 0, .slice none 0 0]) (cs' := [.bool best.ent.noop, .string best.ent.sl.token, .string best.ent.sl.cart, .int .i64 best.ent.sl.epoch, d20]) 27 _ _ rfl (v := (.agg #[.bool best.ent.noop, .string best.ent.sl.token, .string best.ent.sl.cart, .int .i64 best.ent.sl.epoch, d20])) rfl rfl rfl hB29 (by kernel_rfl) ⟨rfl, rfl, rfl, rfl, hd22.one, trivial⟩ (by simp) rfl ?_
  intro w33 hB34 hc35 hz36
  have hs37 := hc35.size
  replace hb := hb.chg hc35 (by omega)
  replace hO17 := hO17.chg hc35 (by omega)
  replace hd22 := hd22.chg hc35 (by omega)
  refine s_val (v := (.bool found)) rfl (r_assign rfl) (rfl : _ = [_, _, _, _, _, _, _, _, _, _, _, _, _, _, _, _, _, _, _, _, _, _, _, _, _, _, _, _, _, _, _, _, _, _, _, _, _, _, _, _, _, _, _, _, _, _, _, _, _, _, _, _, _, _, _, _, _, _, _, _, _, _, _, _, _]) ?_
  refine s_nil rfl ?_
  refine x_seq ?_
  refine c_seq ?_
  refine c_region ?_
  refine s_val (v := v) rfl (r_move rfl) (rfl : _ = [_, _, _, _, _, _, _, _, _, _, _, _, _, _, _, _, _, _, _, _, _, _, _, _, _, _, _, _, _, _, _, _, _, _, _, _, _, _, _, _, _, _, _, _, _, _, _, _, _, _, _, _, _, _, _, _, _, _, _, _, _, _, _, _, _]) ?_
  refine s_val (v := (.int .i64 slot)) rfl (r_move rfl) (rfl : _ = [_, _, _, _, _, _, _, _, _, _, _, _, _, _, _, _, _, _, _, _, _, _, _, _, _, _, _, _, _, _, _, _, _, _, _, _, _, _, _, _, _, _, _, _, _, _, _, _, _, _, _, _, _, _, _, _, _, _, _, _, _, _, _, _, _]) ?_
  refine s_call 14 _ _ (by kernel_rfl) rfl rfl (pickr_c (best := best) (found := found) (hS.at_ hb) slot hp) ?_
  rintro _ w39 ⟨⟨d38, rfl, hd40⟩, hb41⟩
  refine norm (rfl : _ = [_, _, _, _, _, _, _, _, _, _, _, _, _, _, _, _, _, _, _, _, _, _, _, _, _, _, _, _, _, _, _, _, _, _, _, _, _, _, _, _, _, _, _, _, _, _, _, _, _, _, _, _, _, _, _, _, _, _, _, _, _, _, _, _, _]) ?_
  have hc42 := Chg.of_bel hb41
  have hs43 := hc42.size
  replace hb := hb.chg hc42 (by omega)
  replace hO17 := hO17.chg hc42 (by omega)
  replace hd22 := hd22.chg hc42 (by omega)
  replace hB34 := hB34.chg hc42 (by omega)
  refine s_val (v := (.tuple #[(.agg #[.bool best.ent.noop, .string best.ent.sl.token, .string best.ent.sl.cart, .int .i64 best.ent.sl.epoch, d38]), (.bool found)])) rfl (r_move rfl) (rfl : _ = [_, _, _, _, _, _, _, _, _, _, _, _, _, _, _, _, _, _, _, _, _, _, _, _, _, _, _, _, _, _, _, _, _, _, _, _, _, _, _, _, _, _, _, _, _, _, _, _, _, _, _, _, _, _, _, _, _, _, _, _, _, _, _, _, _]) ?_
  refine s_val (v := (.agg #[.bool best.ent.noop, .string best.ent.sl.token, .string best.ent.sl.cart, .int .i64 best.ent.sl.epoch, d38])) rfl (r_extract rfl rfl) (rfl : _ = [_, _, _, _, _, _, _, _, _, _, _, _, _, _, _, _, _, _, _, _, _, _, _, _, _, _, _, _, _, _, _, _, _, _, _, _, _, _, _, _, _, _, _, _, _, _, _, _, _, _, _, _, _, _, _, _, _, _, _, _, _, _, _, _, _]) ?_
  refine s_val (v := (.bool found)) rfl (r_extract rfl rfl) (rfl : _ = [_, _, _, _, _, _, _, _, _, _, _, _, _, _, _, _, _, _, _, _, _, _, _, _, _, _, _, _, _, _, _, _, _, _, _, _, _, _, _, _, _, _, _, _, _, _, _, _, _, _, _, _, _, _, _, _, _, _, _, _, _, _, _, _, _]) ?_
  refine s_alloc (z := (.agg #[.bool false, .string ⟨#[]⟩, .string ⟨#[]⟩, .int .i64 0, .slice none 0 0])) 27 (by kernel_rfl) rfl ?_
  intro a44 w45 he46 hB47 hc48 hz49
  refine norm (rfl : _ = [_, _, _, _, _, _, _, _, _, _, _, _, _, _, _, _, _, _, _, _, _, _, _, _, _, _, _, _, _, _, _, _, _, _, _, _, _, _, _, _, _, _, _, _, _, _, _, _, _, _, _, _, _, _, _, _, _, _, _, _, _, _, _, _, _]) ?_
  have hs50 := hc48.size
  replace hb := hb.chg hc48 (by omega)
  replace hO17 := hO17.chg hc48 (by omega)
  replace hd22 := hd22.chg hc48 (by omega)
  replace hB34 := hB34.chg hc48 (by omega)
  replace hd40 := hd40.chg hc48 (by omega)
  refine s_store (b := a44) (o := 0) (vs := [.bool best.ent.noop, .string best.ent.sl.token, .string best.ent.sl.cart, .int .i64 best.ent.sl.epoch, d38]) (cs := [.bool false, .string ⟨#[]⟩, .string ⟨#[]⟩, .int .i64 0, .slice none 0 0]) (cs' := [.bool best.ent.noop, .string best.ent.sl.token, .string best.ent.sl.cart, .int .i64 best.ent.sl.epoch, d38]) 27 _ _ rfl (v := (.agg #[.bool best.ent.noop, .string best.ent.sl.token, .string best.ent.sl.cart, .int .i64 best.ent.sl.epoch, d38])) rfl rfl rfl hB47 (by kernel_rfl) ⟨rfl, rfl, rfl, rfl, hd40.one, trivial⟩ (by simp) rfl ?_
  intro w51 hB52 hc53 hz54
  have hs55 := hc53.size
  replace hb := hb.chg hc53 (by omega)
  replace hO17 := hO17.chg hc53 (by omega)
  replace hd22 := hd22.chg hc53 (by omega)
  replace hB34 := hB34.chg hc53 (by omega)
  replace hd40 := hd40.chg hc53 (by omega)
  refine s_val (v := (.bool found)) rfl (r_assign rfl) (rfl : _ = [_, _, _, _, _, _, _, _, _, _, _, _, _, _, _, _, _, _, _, _, _, _, _, _, _, _, _, _, _, _, _, _, _, _, _, _, _, _, _, _, _, _, _, _, _, _, _, _, _, _, _, _, _, _, _, _, _, _, _, _, _, _, _, _, _]) ?_
  refine s_nil rfl ?_
  refine x_seq ?_
  refine c_seq ?_
  refine c_region ?_
  refine s_val (v := v) rfl (r_move rfl) (rfl : _ = [_, _, _, _, _, _, _, _, _, _, _, _, _, _, _, _, _, _, _, _, _, _, _, _, _, _, _, _, _, _, _, _, _, _, _, _, _, _, _, _, _, _, _, _, _, _, _, _, _, _, _, _, _, _, _, _, _, _, _, _, _, _, _, _, _]) ?_
  refine s_call 15 _ _ (by kernel_rfl) rfl rfl (slots_c (hS.at_ hb)) ?_
  rintro v56 w57 ⟨hS58, hb59⟩
  refine norm (rfl : _ = [_, _, _, _, _, _, _, _, _, _, _, _, _, _, _, _, _, _, _, _, _, _, _, _, _, _, _, _, _, _, _, _, _, _, _, _, _, _, _, _, _, _, _, _, _, _, _, _, _, _, _, _, _, _, _, _, _, _, _, _, _, _, _, _, _]) ?_
  have hc60 := Chg.of_bel hb59
  have hs61 := hc60.size
  replace hb := hb.chg hc60 (by omega)
  replace hO17 := hO17.chg hc60 (by omega)
  replace hd22 := hd22.chg hc60 (by omega)
  replace hB34 := hB34.chg hc60 (by omega)
  replace hd40 := hd40.chg hc60 (by omega)
  replace hB52 := hB52.chg hc60 (by omega)
  refine s_val (v := v) rfl (r_move rfl) (rfl : _ = [_, _, _, _, _, _, _, _, _, _, _, _, _, _, _, _, _, _, _, _, _, _, _, _, _, _, _, _, _, _, _, _, _, _, _, _, _, _, _, _, _, _, _, _, _, _, _, _, _, _, _, _, _, _, _, _, _, _, _, _, _, _, _, _, _]) ?_
  refine s_call 16 _ _ (by kernel_rfl) rfl rfl (slotsr_c (hS.at_ hb)) ?_
  rintro v62 w63 ⟨hS64, hb65⟩
  refine norm (rfl : _ = [_, _, _, _, _, _, _, _, _, _, _, _, _, _, _, _, _, _, _, _, _, _, _, _, _, _, _, _, _, _, _, _, _, _, _, _, _, _, _, _, _, _, _, _, _, _, _, _, _, _, _, _, _, _, _, _, _, _, _, _, _, _, _, _, _]) ?_
  have hc66 := Chg.of_bel hb65
  have hs67 := hc66.size
  replace hb := hb.chg hc66 (by omega)
  replace hO17 := hO17.chg hc66 (by omega)
  replace hd22 := hd22.chg hc66 (by omega)
  replace hB34 := hB34.chg hc66 (by omega)
  replace hd40 := hd40.chg hc66 (by omega)
  replace hB52 := hB52.chg hc66 (by omega)
  replace hS58 := hS58.chg hc66 (by omega)
  refine s_val (v := v56) rfl (r_assign rfl) (rfl : _ = [_, _, _, _, _, _, _, _, _, _, _, _, _, _, _, _, _, _, _, _, _, _, _, _, _, _, _, _, _, _, _, _, _, _, _, _, _, _, _, _, _, _, _, _, _, _, _, _, _, _, _, _, _, _, _, _, _, _, _, _, _, _, _, _, _]) ?_
  refine s_val (v := v62) rfl (r_assign rfl) (rfl : _ = [_, _, _, _, _, _, _, _, _, _, _, _, _, _, _, _, _, _, _, _, _, _, _, _, _, _, _, _, _, _, _, _, _, _, _, _, _, _, _, _, _, _, _, _, _, _, _, _, _, _, _, _, _, _, _, _, _, _, _, _, _, _, _, _, _]) ?_
  refine s_nil rfl ?_
  refine x_seq ?_
  refine c_seq ?_
  refine c_seq ?_
  refine c_region ?_
  refine s_call 17 _ _ (by kernel_rfl) rfl rfl (lives15_c) ?_
  rintro _ w68 ⟨rfl, hb69⟩
  refine norm (rfl : _ = [_, _, _, _, _, _, _, _, _, _, _, _, _, _, _, _, _, _, _, _, _, _, _, _, _, _, _, _, _, _, _, _, _, _, _, _, _, _, _, _, _, _, _, _, _, _, _, _, _, _, _, _, _, _, _, _, _, _, _, _, _, _, _, _, _]) ?_
  have hc70 := Chg.of_bel hb69
  have hs71 := hc70.size
  replace hb := hb.chg hc70 (by omega)
  replace hO17 := hO17.chg hc70 (by omega)
  replace hd22 := hd22.chg hc70 (by omega)
  replace hB34 := hB34.chg hc70 (by omega)
  replace hd40 := hd40.chg hc70 (by omega)
  replace hB52 := hB52.chg hc70 (by omega)
  replace hS58 := hS58.chg hc70 (by omega)
  replace hS64 := hS64.chg hc70 (by omega)
  refine s_val rfl (r_not rfl rfl) (rfl : _ = [_, _, _, _, _, _, _, _, _, _, _, _, _, _, _, _, _, _, _, _, _, _, _, _, _, _, _, _, _, _, _, _, _, _, _, _, _, _, _, _, _, _, _, _, _, _, _, _, _, _, _, _, _, _, _, _, _, _, _, _, _, _, _, _, _]) ?_
  refine s_val (v := (.bool false)) rfl (r_move rfl) (rfl : _ = [_, _, _, _, _, _, _, _, _, _, _, _, _, _, _, _, _, _, _, _, _, _, _, _, _, _, _, _, _, _, _, _, _, _, _, _, _, _, _, _, _, _, _, _, _, _, _, _, _, _, _, _, _, _, _, _, _, _, _, _, _, _, _, _, _]) ?_
  refine s_val (v := (.agg #[.bool best.ent.noop, .string best.ent.sl.token, .string best.ent.sl.cart, .int .i64 best.ent.sl.epoch, d20])) (wan_t (dj := 32) rfl rfl) (r_load rfl (Ld.row (cs := [.bool best.ent.noop, .string best.ent.sl.token, .string best.ent.sl.cart, .int .i64 best.ent.sl.epoch, d20]) Try.underlying27 rfl (by kernel_rfl) (hB34.range 0 rfl))) (rfl : _ = [_, _, _, _, _, _, _, _, _, _, _, _, _, _, _, _, _, _, _, _, _, _, _, _, _, _, _, _, _, _, _, _, _, _, _, _, _, _, _, _, _, _, _, _, _, _, _, _, _, _, _, _, _, _, _, _, _, _, _, _, _, _, _, _, _]) ?_
  refine s_val (v := (.agg #[.bool best.ent.noop, .string best.ent.sl.token, .string best.ent.sl.cart, .int .i64 best.ent.sl.epoch, d38])) (wan_t (dj := 32) rfl rfl) (r_load rfl (Ld.row (cs := [.bool best.ent.noop, .string best.ent.sl.token, .string best.ent.sl.cart, .int .i64 best.ent.sl.epoch, d38]) Try.underlying27 rfl (by kernel_rfl) (hB52.range 0 rfl))) (rfl : _ = [_, _, _, _, _, _, _, _, _, _, _, _, _, _, _, _, _, _, _, _, _, _, _, _, _, _, _, _, _, _, _, _, _, _, _, _, _, _, _, _, _, _, _, _, _, _, _, _, _, _, _, _, _, _, _, _, _, _, _, _, _, _, _, _, _]) ?_
  refine s_callb 18 _ _ (by kernel_rfl) (wan_t (dj := 32) rfl rfl) rfl (sameEnt_c (a := best.ent) (b := best.ent) hd22 hd40) ?_
  intro b72 w73 hb72 hb74
  refine norm (rfl : _ = [_, _, _, _, _, _, _, _, _, _, _, _, _, _, _, _, _, _, _, _, _, _, _, _, _, _, _, _, _, _, _, _, _, _, _, _, _, _, _, _, _, _, _, _, _, _, _, _, _, _, _, _, _, _, _, _, _, _, _, _, _, _, _, _, _]) ?_
  have hc75 := Chg.of_bel hb74
  have hs76 := hc75.size
  replace hb := hb.chg hc75 (by omega)
  replace hO17 := hO17.chg hc75 (by omega)
  replace hd22 := hd22.chg hc75 (by omega)
  replace hB34 := hB34.chg hc75 (by omega)
  replace hd40 := hd40.chg hc75 (by omega)
  replace hB52 := hB52.chg hc75 (by omega)
  replace hS58 := hS58.chg hc75 (by omega)
  replace hS64 := hS64.chg hc75 (by omega)
  refine s_val (wan_t (dj := 32) rfl rfl) (r_not rfl rfl) (rfl : _ = [_, _, _, _, _, _, _, _, _, _, _, _, _, _, _, _, _, _, _, _, _, _, _, _, _, _, _, _, _, _, _, _, _, _, _, _, _, _, _, _, _, _, _, _, _, _, _, _, _, _, _, _, _, _, _, _, _, _, _, _, _, _, _, _, _]) ?_
  refine s_val (v := (.bool (!b72))) rfl (r_pick rfl rfl) (rfl : _ = [_, _, _, _, _, _, _, _, _, _, _, _, _, _, _, _, _, _, _, _, _, _, _, _, _, _, _, _, _, _, _, _, _, _, _, _, _, _, _, _, _, _, _, _, _, _, _, _, _, _, _, _, _, _, _, _, _, _, _, _, _, _, _, _, _]) ?_
  refine s_val (v := (.bool (!b72))) rfl (r_move rfl) (rfl : _ = [_, _, _, _, _, _, _, _, _, _, _, _, _, _, _, _, _, _, _, _, _, _, _, _, _, _, _, _, _, _, _, _, _, _, _, _, _, _, _, _, _, _, _, _, _, _, _, _, _, _, _, _, _, _, _, _, _, _, _, _, _, _, _, _, _]) ?_
  cases b72 with
  | true =>
    replace hb72 := toB_t hb72
    refine s_val (v := (.bool found)) (wan_t (dj := 38) rfl rfl) (r_move rfl) (rfl : _ = [_, _, _, _, _, _, _, _, _, _, _, _, _, _, _, _, _, _, _, _, _, _, _, _, _, _, _, _, _, _, _, _, _, _, _, _, _, _, _, _, _, _, _, _, _, _, _, _, _, _, _, _, _, _, _, _, _, _, _, _, _, _, _, _, _]) ?_
    refine s_val (v := (.bool found)) (wan_t (dj := 38) rfl rfl) (r_move rfl) (rfl : _ = [_, _, _, _, _, _, _, _, _, _, _, _, _, _, _, _, _, _, _, _, _, _, _, _, _, _, _, _, _, _, _, _, _, _, _, _, _, _, _, _, _, _, _, _, _, _, _, _, _, _, _, _, _, _, _, _, _, _, _, _, _, _, _, _, _]) ?_
    refine s_bool (p := (found ≠ found : Prop)) (wan_t (dj := 38) rfl rfl) (r_neb Try.underlying4 rfl rfl) neb_iff ?_
    intro b77 hb77
    refine norm (rfl : _ = [_, _, _, _, _, _, _, _, _, _, _, _, _, _, _, _, _, _, _, _, _, _, _, _, _, _, _, _, _, _, _, _, _, _, _, _, _, _, _, _, _, _, _, _, _, _, _, _, _, _, _, _, _, _, _, _, _, _, _, _, _, _, _, _, _]) ?_
    refine s_val (v := (.bool b77)) rfl (r_pick rfl rfl) (rfl : _ = [_, _, _, _, _, _, _, _, _, _, _, _, _, _, _, _, _, _, _, _, _, _, _, _, _, _, _, _, _, _, _, _, _, _, _, _, _, _, _, _, _, _, _, _, _, _, _, _, _, _, _, _, _, _, _, _, _, _, _, _, _, _, _, _, _]) ?_
    refine s_val (v := (.bool b77)) rfl (r_move rfl) (rfl : _ = [_, _, _, _, _, _, _, _, _, _, _, _, _, _, _, _, _, _, _, _, _, _, _, _, _, _, _, _, _, _, _, _, _, _, _, _, _, _, _, _, _, _, _, _, _, _, _, _, _, _, _, _, _, _, _, _, _, _, _, _, _, _, _, _, _]) ?_
    cases b77 with
    | true =>
      replace hb77 := bt hb77
      refine s_skip (wan_f (dj := 43) rfl rfl rfl) (rfl : _ = [_, _, _, _, _, _, _, _, _, _, _, _, _, _, _, _, _, _, _, _, _, _, _, _, _, _, _, _, _, _, _, _, _, _, _, _, _, _, _, _, _, _, _, _, _, _, _, _, _, _, _, _, _, _, _, _, _, _, _, _, _, _, _, _, _]) ?_
      refine s_skip (wan_f (dj := 43) rfl rfl rfl) (rfl : _ = [_, _, _, _, _, _, _, _, _, _, _, _, _, _, _, _, _, _, _, _, _, _, _, _, _, _, _, _, _, _, _, _, _, _, _, _, _, _, _, _, _, _, _, _, _, _, _, _, _, _, _, _, _, _, _, _, _, _, _, _, _, _, _, _, _]) ?_
      refine s_skip (wan_f (dj := 43) rfl rfl rfl) (rfl : _ = [_, _, _, _, _, _, _, _, _, _, _, _, _, _, _, _, _, _, _, _, _, _, _, _, _, _, _, _, _, _, _, _, _, _, _, _, _, _, _, _, _, _, _, _, _, _, _, _, _, _, _, _, _, _, _, _, _, _, _, _, _, _, _, _, _]) ?_
      refine s_skip (wan_f (dj := 43) rfl rfl rfl) (rfl : _ = [_, _, _, _, _, _, _, _, _, _, _, _, _, _, _, _, _, _, _, _, _, _, _, _, _, _, _, _, _, _, _, _, _, _, _, _, _, _, _, _, _, _, _, _, _, _, _, _, _, _, _, _, _, _, _, _, _, _, _, _, _, _, _, _, _]) ?_
      refine s_skip (wan_f (dj := 43) rfl rfl rfl) (rfl : _ = [_, _, _, _, _, _, _, _, _, _, _, _, _, _, _, _, _, _, _, _, _, _, _, _, _, _, _, _, _, _, _, _, _, _, _, _, _, _, _, _, _, _, _, _, _, _, _, _, _, _, _, _, _, _, _, _, _, _, _, _, _, _, _, _, _]) ?_
      refine s_val (v := (.bool true)) rfl (r_pick rfl rfl) (rfl : _ = [_, _, _, _, _, _, _, _, _, _, _, _, _, _, _, _, _, _, _, _, _, _, _, _, _, _, _, _, _, _, _, _, _, _, _, _, _, _, _, _, _, _, _, _, _, _, _, _, _, _, _, _, _, _, _, _, _, _, _, _, _, _, _, _, _]) ?_
      refine s_nil rfl ?_
      refine x_seq ?_
      refine c_cond rfl (fun _ => ?_) (fun hh => by cases hh)
      refine c_seq ?_
      refine c_region ?_
      refine s_val (v := (.bool false)) rfl (r_assign rfl) (rfl : _ = [_, _, _, _, _, _, _, _, _, _, _, _, _, _, _, _, _, _, _, _, _, _, _, _, _, _, _, _, _, _, _, _, _, _, _, _, _, _, _, _, _, _, _, _, _, _, _, _, _, _, _, _, _, _, _, _, _, _, _, _, _, _, _, _, _]) ?_
      refine s_nil rfl ?_
      refine x_seq ?_
      refine c_ret ?_
      refine x_then_ret ?_
      refine post_ret rfl rfl ?_
      exact absurd rfl hb77
    | false =>
      replace hb77 := bf hb77
      refine s_val (v := v56) (wan_t (dj := 43) rfl rfl) (r_move rfl) (rfl : _ = [_, _, _, _, _, _, _, _, _, _, _, _, _, _, _, _, _, _, _, _, _, _, _, _, _, _, _, _, _, _, _, _, _, _, _, _, _, _, _, _, _, _, _, _, _, _, _, _, _, _, _, _, _, _, _, _, _, _, _, _, _, _, _, _, _]) ?_
      refine s_val (v := (.int .i64 ((setL (l.map (·.slot))).length : Int))) (wan_t (dj := 43) rfl rfl) (hS58.len Try.underlying23 rfl _) (rfl : _ = [_, _, _, _, _, _, _, _, _, _, _, _, _, _, _, _, _, _, _, _, _, _, _, _, _, _, _, _, _, _, _, _, _, _, _, _, _, _, _, _, _, _, _, _, _, _, _, _, _, _, _, _, _, _, _, _, _, _, _, _, _, _, _, _, _]) ?_
      refine s_val (v := v62) (wan_t (dj := 43) rfl rfl) (r_move rfl) (rfl : _ = [_, _, _, _, _, _, _, _, _, _, _, _, _, _, _, _, _, _, _, _, _, _, _, _, _, _, _, _, _, _, _, _, _, _, _, _, _, _, _, _, _, _, _, _, _, _, _, _, _, _, _, _, _, _, _, _, _, _, _, _, _, _, _, _, _]) ?_
      refine s_val (v := (.int .i64 ((setL (l.map (·.slot))).length : Int))) (wan_t (dj := 43) rfl rfl) (hS64.len Try.underlying23 rfl _) (rfl : _ = [_, _, _, _, _, _, _, _, _, _, _, _, _, _, _, _, _, _, _, _, _, _, _, _, _, _, _, _, _, _, _, _, _, _, _, _, _, _, _, _, _, _, _, _, _, _, _, _, _, _, _, _, _, _, _, _, _, _, _, _, _, _, _, _, _]) ?_
      refine s_bool (p := (((setL (l.map (·.slot))).length : Int) ≠ ((setL (l.map (·.slot))).length : Int) : Prop)) (wan_t (dj := 43) rfl rfl) (r_nei rfl rfl) nei_iff ?_
      intro b78 hb78
      refine norm (rfl : _ = [_, _, _, _, _, _, _, _, _, _, _, _, _, _, _, _, _, _, _, _, _, _, _, _, _, _, _, _, _, _, _, _, _, _, _, _, _, _, _, _, _, _, _, _, _, _, _, _, _, _, _, _, _, _, _, _, _, _, _, _, _, _, _, _, _]) ?_
      refine s_val (v := (.bool b78)) rfl (r_pick rfl rfl) (rfl : _ = [_, _, _, _, _, _, _, _, _, _, _, _, _, _, _, _, _, _, _, _, _, _, _, _, _, _, _, _, _, _, _, _, _, _, _, _, _, _, _, _, _, _, _, _, _, _, _, _, _, _, _, _, _, _, _, _, _, _, _, _, _, _, _, _, _]) ?_
      refine s_nil rfl ?_
      refine x_seq ?_
      cases b78 with
      | true =>
        replace hb78 := bt hb78
        refine c_cond rfl (fun _ => ?_) (fun hh => by cases hh)
        refine c_seq ?_
        refine c_region ?_
        refine s_val (v := (.bool false)) rfl (r_assign rfl) (rfl : _ = [_, _, _, _, _, _, _, _, _, _, _, _, _, _, _, _, _, _, _, _, _, _, _, _, _, _, _, _, _, _, _, _, _, _, _, _, _, _, _, _, _, _, _, _, _, _, _, _, _, _, _, _, _, _, _, _, _, _, _, _, _, _, _, _, _]) ?_
        refine s_nil rfl ?_
        refine x_seq ?_
        refine c_ret ?_
        refine x_then_ret ?_
        refine post_ret rfl rfl ?_
        exact absurd rfl hb78
      | false =>
        replace hb78 := bf hb78
        refine c_cond rfl (fun hh => by cases hh) (fun _ => ?_)
        refine c_skip ?_
        refine x_seq ?_
        refine c_seq ?_
        refine c_seq ?_
        refine c_region ?_
        refine s_val (v := (.int .i64 0)) rfl (r_assign rfl) (rfl : _ = [_, _, _, _, _, _, _, _, _, _, _, _, _, _, _, _, _, _, _, _, _, _, _, _, _, _, _, _, _, _, _, _, _, _, _, _, _, _, _, _, _, _, _, _, _, _, _, _, _, _, _, _, _, _, _, _, _, _, _, _, _, _, _, _, _]) ?_
        refine s_nil rfl ?_
        refine x_seq ?_
        refine c_block ?_
        refine c_loop (fun kk_ fr_ wr79 => ∃ (i : Nat) (jk80 : Nat → Value), kk_ = (setL (l.map (·.slot))).length - i ∧ fr_ = [jk80 0, jk80 1, jk80 2, jk80 3, jk80 4, jk80 5, jk80 6, jk80 7, jk80 8, v56, v62, .int .i64 (i : Int), jk80 9, jk80 10, jk80 11, jk80 12, jk80 13, jk80 14, jk80 15, jk80 16, jk80 17, jk80 18, jk80 19, jk80 20, jk80 21, jk80 22, jk80 23, jk80 24, jk80 25, jk80 26, jk80 27, jk80 28, jk80 29, jk80 30, jk80 31, jk80 32, jk80 33, jk80 34, jk80 35, jk80 36, jk80 37, jk80 38, jk80 39, jk80 40, jk80 41, jk80 42, jk80 43, jk80 44, jk80 45, jk80 46, jk80 47, jk80 48, jk80 49, jk80 50, jk80 51, jk80 52, jk80 53, jk80 54, jk80 55, jk80 56, jk80 57, jk80 58, jk80 59, jk80 60, jk80 61] ∧ (i ≤ (setL (l.map (·.slot))).length) ∧ Bel w wr79 ∧ Sl kInt (Rg 0 w51.heap.size w57.heap.size) wr79 v56 (setL (l.map (·.slot))) ∧ Sl kInt (Rg 0 w57.heap.size w63.heap.size) wr79 v62 (setL (l.map (·.slot)))) _ ⟨0, (fun n_ => ([v, .int .i64 slot, undef, undef, .bool false, .pointer (some ⟨a26, 0, none⟩), .bool found, .pointer (some ⟨a44, 0, none⟩), .bool found, .tuple #[(.agg #[.bool best.ent.noop, .string best.ent.sl.token, .string best.ent.sl.cart, .int .i64 best.ent.sl.epoch, d20]), (.bool found)], .slice (some ⟨a1, 0, none⟩) 0 0, v, v15, .int .i64 slot, .tuple #[(.agg #[.bool best.ent.noop, .string best.ent.sl.token, .string best.ent.sl.cart, .int .i64 best.ent.sl.epoch, d20]), (.bool found)], .agg #[.bool best.ent.noop, .string best.ent.sl.token, .string best.ent.sl.cart, .int .i64 best.ent.sl.epoch, d20], .bool found, .tuple #[(.agg #[.bool best.ent.noop, .string best.ent.sl.token, .string best.ent.sl.cart, .int .i64 best.ent.sl.epoch, d38]), (.bool found)], v, .int .i64 slot, .tuple #[(.agg #[.bool best.ent.noop, .string best.ent.sl.token, .string best.ent.sl.cart, .int .i64 best.ent.sl.epoch, d38]), (.bool found)], .agg #[.bool best.ent.noop, .string best.ent.sl.token, .string best.ent.sl.cart, .int .i64 best.ent.sl.epoch, d38], .bool found, v, v56, v, v62, .bool true, .bool false, .bool false, .agg #[.bool best.ent.noop, .string best.ent.sl.token, .string best.ent.sl.cart, .int .i64 best.ent.sl.epoch, d20], .agg #[.bool best.ent.noop, .string best.ent.sl.token, .string best.ent.sl.cart, .int .i64 best.ent.sl.epoch, d38], .bool true, .bool false, .bool false, .bool false, .bool found, .bool found, .bool false, .bool false, .bool false, v56, .int .i64 ((setL (l.map (·.slot))).length : Int), v62, .int .i64 ((setL (l.map (·.slot))).length : Int), .bool false, .bool false, undef, undef, undef, undef, undef, undef, undef, undef, undef, undef, undef, undef, undef, undef, undef] : List Value).getD n_ undef), rfl, rfl, (Nat.zero_le _), hb, hS58, hS64⟩ ?_
        rintro _ _ wr79 ⟨i, jk80, rfl, rfl, hi, hb81, hS58, hS64⟩
        have hs82 := hb81.size
        have hl83 := lim_le hS58.lim
        have hl84 := lim_le hS64.lim
        refine c_seq ?_
        refine c_seq ?_
        refine c_region ?_
        refine s_val (v := (.int .i64 (i : Int))) rfl (r_move rfl) (rfl : _ = [_, _, _, _, _, _, _, _, _, _, _, _, _, _, _, _, _, _, _, _, _, _, _, _, _, _, _, _, _, _, _, _, _, _, _, _, _, _, _, _, _, _, _, _, _, _, _, _, _, _, _, _, _, _, _, _, _, _, _, _, _, _, _, _, _]) ?_
        refine s_val (v := v56) rfl (r_move rfl) (rfl : _ = [_, _, _, _, _, _, _, _, _, _, _, _, _, _, _, _, _, _, _, _, _, _, _, _, _, _, _, _, _, _, _, _, _, _, _, _, _, _, _, _, _, _, _, _, _, _, _, _, _, _, _, _, _, _, _, _, _, _, _, _, _, _, _, _, _]) ?_
        refine s_val (v := (.int .i64 ((setL (l.map (·.slot))).length : Int))) rfl (hS58.len Try.underlying23 rfl _) (rfl : _ = [_, _, _, _, _, _, _, _, _, _, _, _, _, _, _, _, _, _, _, _, _, _, _, _, _, _, _, _, _, _, _, _, _, _, _, _, _, _, _, _, _, _, _, _, _, _, _, _, _, _, _, _, _, _, _, _, _, _, _, _, _, _, _, _, _]) ?_
        refine s_bool (p := ((i : Int) < ((setL (l.map (·.slot))).length : Int) : Prop)) rfl (r_lss rfl rfl) decide_eq_true_iff ?_
        intro b85 hb85
        refine norm (rfl : _ = [_, _, _, _, _, _, _, _, _, _, _, _, _, _, _, _, _, _, _, _, _, _, _, _, _, _, _, _, _, _, _, _, _, _, _, _, _, _, _, _, _, _, _, _, _, _, _, _, _, _, _, _, _, _, _, _, _, _, _, _, _, _, _, _, _]) ?_
        refine s_nil rfl ?_
        refine x_seq ?_
        cases b85 with
        | true =>
          replace hb85 := bt hb85
          refine c_cond rfl (fun _ => ?_) (fun hh => by cases hh)
          refine c_skip ?_
          refine x_seq ?_
          refine c_seq ?_
          refine c_block ?_
          refine c_seq ?_
          refine c_draw (by kernel_rfl) (by kernel_rfl) ?_
          refine q_val (v := v56) rfl (fun w' hC => r_move rfl) (rfl : _ = [_, _, _, _, _, _, _, _, _, _, _, _, _, _, _, _, _, _, _, _, _, _, _, _, _, _, _, _, _, _, _, _, _, _, _, _, _, _, _, _, _, _, _, _, _, _, _, _, _, _, _, _, _, _, _, _, _, _, _, _, _, _, _, _, _]) ?_
          refine q_val (v := (.int .i64 (i : Int))) rfl (fun w' hC => r_move rfl) (rfl : _ = [_, _, _, _, _, _, _, _, _, _, _, _, _, _, _, _, _, _, _, _, _, _, _, _, _, _, _, _, _, _, _, _, _, _, _, _, _, _, _, _, _, _, _, _, _, _, _, _, _, _, _, _, _, _, _, _, _, _, _, _, _, _, _, _, _]) ?_
          obtain ⟨e86, a87, o88, c89, he90, hc91, hr92, hk93, hi94⟩ := hS58.idx (j := (i : Int)) (by omega) (by omega)
          rw [Int.toNat_natCast] at he90
          obtain rfl : c89 = [.int .i64 e86] := hc91
          refine q_val rfl (fun w' hC => hi94 _ _ _ _ _ _ _ (by kernel_rfl) rfl rfl) (rfl : _ = [_, _, _, _, _, _, _, _, _, _, _, _, _, _, _, _, _, _, _, _, _, _, _, _, _, _, _, _, _, _, _, _, _, _, _, _, _, _, _, _, _, _, _, _, _, _, _, _, _, _, _, _, _, _, _, _, _, _, _, _, _, _, _, _, _]) ?_
          refine q_val (v := (.int .i64 e86)) rfl (fun w' hC => r_load rfl (Ld.one Try.underlying3 rfl ((range_below hr92 hC) 0 _ rfl))) (rfl : _ = [_, _, _, _, _, _, _, _, _, _, _, _, _, _, _, _, _, _, _, _, _, _, _, _, _, _, _, _, _, _, _, _, _, _, _, _, _, _, _, _, _, _, _, _, _, _, _, _, _, _, _, _, _, _, _, _, _, _, _, _, _, _, _, _, _]) ?_
          refine q_val (v := v62) rfl (fun w' hC => r_move rfl) (rfl : _ = [_, _, _, _, _, _, _, _, _, _, _, _, _, _, _, _, _, _, _, _, _, _, _, _, _, _, _, _, _, _, _, _, _, _, _, _, _, _, _, _, _, _, _, _, _, _, _, _, _, _, _, _, _, _, _, _, _, _, _, _, _, _, _, _, _]) ?_
          refine q_val (v := (.int .i64 (i : Int))) rfl (fun w' hC => r_move rfl) (rfl : _ = [_, _, _, _, _, _, _, _, _, _, _, _, _, _, _, _, _, _, _, _, _, _, _, _, _, _, _, _, _, _, _, _, _, _, _, _, _, _, _, _, _, _, _, _, _, _, _, _, _, _, _, _, _, _, _, _, _, _, _, _, _, _, _, _, _]) ?_
          obtain ⟨e95, a96, o97, c98, he99, hc100, hr101, hk102, hi103⟩ := hS64.idx (j := (i : Int)) (by omega) (by omega)
          rw [Int.toNat_natCast] at he99
          rw [he90] at he99
          injection he99 with he99
          subst he99
          obtain rfl : c98 = [.int .i64 e86] := hc100
          refine q_val rfl (fun w' hC => hi103 _ _ _ _ _ _ _ (by kernel_rfl) rfl rfl) (rfl : _ = [_, _, _, _, _, _, _, _, _, _, _, _, _, _, _, _, _, _, _, _, _, _, _, _, _, _, _, _, _, _, _, _, _, _, _, _, _, _, _, _, _, _, _, _, _, _, _, _, _, _, _, _, _, _, _, _, _, _, _, _, _, _, _, _, _]) ?_
          refine q_val (v := (.int .i64 e86)) rfl (fun w' hC => r_load rfl (Ld.one Try.underlying3 rfl ((range_below hr101 hC) 0 _ rfl))) (rfl : _ = [_, _, _, _, _, _, _, _, _, _, _, _, _, _, _, _, _, _, _, _, _, _, _, _, _, _, _, _, _, _, _, _, _, _, _, _, _, _, _, _, _, _, _, _, _, _, _, _, _, _, _, _, _, _, _, _, _, _, _, _, _, _, _, _, _]) ?_
          refine q_bool (p := (e86 ≠ e86 : Prop)) rfl (fun w' hC => r_nei rfl rfl) nei_iff ?_
          intro b104 hb104
          refine q_norm (rfl : _ = [_, _, _, _, _, _, _, _, _, _, _, _, _, _, _, _, _, _, _, _, _, _, _, _, _, _, _, _, _, _, _, _, _, _, _, _, _, _, _, _, _, _, _, _, _, _, _, _, _, _, _, _, _, _, _, _, _, _, _, _, _, _, _, _, _]) ?_
          refine q_nil rfl ?_
          intro w105 hq106
          have hc107 := Chg.of_bel hq106
          have hs108 := hc107.size
          replace hb81 := hb81.chg hc107 (by omega)
          replace hS58 := hS58.chg hc107 (by omega)
          replace hS64 := hS64.chg hc107 (by omega)
          refine x_seq ?_
          cases b104 with
          | true =>
            replace hb104 := bt hb104
            refine c_cond rfl (fun _ => ?_) (fun hh => by cases hh)
            refine c_seq ?_
            refine c_region ?_
            refine s_val (v := (.bool false)) rfl (r_assign rfl) (rfl : _ = [_, _, _, _, _, _, _, _, _, _, _, _, _, _, _, _, _, _, _, _, _, _, _, _, _, _, _, _, _, _, _, _, _, _, _, _, _, _, _, _, _, _, _, _, _, _, _, _, _, _, _, _, _, _, _, _, _, _, _, _, _, _, _, _, _]) ?_
            refine s_nil rfl ?_
            refine x_seq ?_
            refine c_ret ?_
            refine x_block_ret ?_
            refine x_then_ret ?_
            refine x_then_ret ?_
            refine x_block_ret ?_
            refine x_then_ret ?_
            refine post_ret rfl rfl ?_
            exact absurd rfl hb104
          | false =>
            replace hb104 := bf hb104
            refine c_cond rfl (fun hh => by cases hh) (fun _ => ?_)
            refine c_skip ?_
            refine x_block ?_
            refine x_seq ?_
            refine c_region ?_
            refine s_val (v := (.int .i64 (i : Int))) rfl (r_move rfl) (rfl : _ = [_, _, _, _, _, _, _, _, _, _, _, _, _, _, _, _, _, _, _, _, _, _, _, _, _, _, _, _, _, _, _, _, _, _, _, _, _, _, _, _, _, _, _, _, _, _, _, _, _, _, _, _, _, _, _, _, _, _, _, _, _, _, _, _, _]) ?_
            refine s_val (v := (.int .i64 ((i : Int) + 1))) rfl (r_add (c := (i : Int) + 1) rfl rfl (i64_in (by omega) (by omega))) (rfl : _ = [_, _, _, _, _, _, _, _, _, _, _, _, _, _, _, _, _, _, _, _, _, _, _, _, _, _, _, _, _, _, _, _, _, _, _, _, _, _, _, _, _, _, _, _, _, _, _, _, _, _, _, _, _, _, _, _, _, _, _, _, _, _, _, _, _]) ?_
            refine s_val (v := (.int .i64 ((i : Int) + 1))) rfl (r_assign rfl) (rfl : _ = [_, _, _, _, _, _, _, _, _, _, _, _, _, _, _, _, _, _, _, _, _, _, _, _, _, _, _, _, _, _, _, _, _, _, _, _, _, _, _, _, _, _, _, _, _, _, _, _, _, _, _, _, _, _, _, _, _, _, _, _, _, _, _, _, _]) ?_
            refine s_nil rfl ?_
            refine x_then ?_
            refine ⟨_, _, ?_, rfl, (i + 1), (fun n_ => ([jk80 0, jk80 1, jk80 2, jk80 3, jk80 4, jk80 5, jk80 6, jk80 7, jk80 8, jk80 9, jk80 10, jk80 11, jk80 12, jk80 13, jk80 14, jk80 15, jk80 16, jk80 17, jk80 18, jk80 19, jk80 20, jk80 21, jk80 22, jk80 23, jk80 24, jk80 25, jk80 26, jk80 27, jk80 28, jk80 29, jk80 30, jk80 31, jk80 32, jk80 33, jk80 34, jk80 35, jk80 36, jk80 37, jk80 38, jk80 39, jk80 40, jk80 41, jk80 42, jk80 43, jk80 44, jk80 45, jk80 46, .int .i64 (i : Int), v56, .int .i64 ((setL (l.map (·.slot))).length : Int), .bool true, .int .i64 (i : Int), .int .i64 ((i : Int) + 1), v56, .int .i64 (i : Int), .pointer (some ⟨a87, o88, none⟩), .int .i64 e86, v62, .int .i64 (i : Int), .pointer (some ⟨a96, o97, none⟩), .int .i64 e86, .bool false] : List Value).getD n_ undef), rfl, rfl, (by omega), hb81, hS58, hS64⟩
            omega
        | false =>
          replace hb85 := bf hb85
          refine c_cond rfl (fun hh => by cases hh) (fun _ => ?_)
          refine c_exit ?_
          refine x_then_exit ?_
          refine x_then_exit ?_
          refine x_block_same ?_
          refine x_seq ?_
          refine c_seq ?_
          refine c_region ?_
          refine s_val (v := (.bool true)) rfl (r_assign rfl) (rfl : _ = [_, _, _, _, _, _, _, _, _, _, _, _, _, _, _, _, _, _, _, _, _, _, _, _, _, _, _, _, _, _, _, _, _, _, _, _, _, _, _, _, _, _, _, _, _, _, _, _, _, _, _, _, _, _, _, _, _, _, _, _, _, _, _, _, _]) ?_
          refine s_nil rfl ?_
          refine x_seq ?_
          refine c_ret ?_
          refine post_ret rfl rfl ?_
          exact ⟨rfl, hb81⟩
  | false =>
    replace hb72 := toB_f hb72
    refine s_skip (wan_f (dj := 38) rfl rfl rfl) (rfl : _ = [_, _, _, _, _, _, _, _, _, _, _, _, _, _, _, _, _, _, _, _, _, _, _, _, _, _, _, _, _, _, _, _, _, _, _, _, _, _, _, _, _, _, _, _, _, _, _, _, _, _, _, _, _, _, _, _, _, _, _, _, _, _, _, _, _]) ?_
    refine s_skip (wan_f (dj := 38) rfl rfl rfl) (rfl : _ = [_, _, _, _, _, _, _, _, _, _, _, _, _, _, _, _, _, _, _, _, _, _, _, _, _, _, _, _, _, _, _, _, _, _, _, _, _, _, _, _, _, _, _, _, _, _, _, _, _, _, _, _, _, _, _, _, _, _, _, _, _, _, _, _, _]) ?_
    refine s_skip (wan_f (dj := 38) rfl rfl rfl) (rfl : _ = [_, _, _, _, _, _, _, _, _, _, _, _, _, _, _, _, _, _, _, _, _, _, _, _, _, _, _, _, _, _, _, _, _, _, _, _, _, _, _, _, _, _, _, _, _, _, _, _, _, _, _, _, _, _, _, _, _, _, _, _, _, _, _, _, _]) ?_
    refine s_val (v := (.bool true)) rfl (r_pick rfl rfl) (rfl : _ = [_, _, _, _, _, _, _, _, _, _, _, _, _, _, _, _, _, _, _, _, _, _, _, _, _, _, _, _, _, _, _, _, _, _, _, _, _, _, _, _, _, _, _, _, _, _, _, _, _, _, _, _, _, _, _, _, _, _, _, _, _, _, _, _, _]) ?_
    refine s_val (v := (.bool true)) rfl (r_move rfl) (rfl : _ = [_, _, _, _, _, _, _, _, _, _, _, _, _, _, _, _, _, _, _, _, _, _, _, _, _, _, _, _, _, _, _, _, _, _, _, _, _, _, _, _, _, _, _, _, _, _, _, _, _, _, _, _, _, _, _, _, _, _, _, _, _, _, _, _, _]) ?_
    refine s_skip (wan_f (dj := 43) rfl rfl rfl) (rfl : _ = [_, _, _, _, _, _, _, _, _, _, _, _, _, _, _, _, _, _, _, _, _, _, _, _, _, _, _, _, _, _, _, _, _, _, _, _, _, _, _, _, _, _, _, _, _, _, _, _, _, _, _, _, _, _, _, _, _, _, _, _, _, _, _, _, _]) ?_
    refine s_skip (wan_f (dj := 43) rfl rfl rfl) (rfl : _ = [_, _, _, _, _, _, _, _, _, _, _, _, _, _, _, _, _, _, _, _, _, _, _, _, _, _, _, _, _, _, _, _, _, _, _, _, _, _, _, _, _, _, _, _, _, _, _, _, _, _, _, _, _, _, _, _, _, _, _, _, _, _, _, _, _]) ?_
    refine s_skip (wan_f (dj := 43) rfl rfl rfl) (rfl : _ = [_, _, _, _, _, _, _, _, _, _, _, _, _, _, _, _, _, _, _, _, _, _, _, _, _, _, _, _, _, _, _, _, _, _, _, _, _, _, _, _, _, _, _, _, _, _, _, _, _, _, _, _, _, _, _, _, _, _, _, _, _, _, _, _, _]) ?_
    refine s_skip (wan_f (dj := 43) rfl rfl rfl) (rfl : _ = [_, _, _, _, _, _, _, _, _, _, _, _, _, _, _, _, _, _, _, _, _, _, _, _, _, _, _, _, _, _, _, _, _, _, _, _, _, _, _, _, _, _, _, _, _, _, _, _, _, _, _, _, _, _, _, _, _, _, _, _, _, _, _, _, _]) ?_
    refine s_skip (wan_f (dj := 43) rfl rfl rfl) (rfl : _ = [_, _, _, _, _, _, _, _, _, _, _, _, _, _, _, _, _, _, _, _, _, _, _, _, _, _, _, _, _, _, _, _, _, _, _, _, _, _, _, _, _, _, _, _, _, _, _, _, _, _, _, _, _, _, _, _, _, _, _, _, _, _, _, _, _]) ?_
    refine s_val (v := (.bool true)) rfl (r_pick rfl rfl) (rfl : _ = [_, _, _, _, _, _, _, _, _, _, _, _, _, _, _, _, _, _, _, _, _, _, _, _, _, _, _, _, _, _, _, _, _, _, _, _, _, _, _, _, _, _, _, _, _, _, _, _, _, _, _, _, _, _, _, _, _, _, _, _, _, _, _, _, _]) ?_
    refine s_nil rfl ?_
    refine x_seq ?_
    refine c_cond rfl (fun _ => ?_) (fun hh => by cases hh)
    refine c_seq ?_
    refine c_region ?_
    refine s_val (v := (.bool false)) rfl (r_assign rfl) (rfl : _ = [_, _, _, _, _, _, _, _, _, _, _, _, _, _, _, _, _, _, _, _, _, _, _, _, _, _, _, _, _, _, _, _, _, _, _, _, _, _, _, _, _, _, _, _, _, _, _, _, _, _, _, _, _, _, _, _, _, _, _, _, _, _, _, _, _]) ?_
    refine s_nil rfl ?_
    refine x_seq ?_
    refine c_ret ?_
    refine x_then_ret ?_
    refine post_ret rfl rfl ?_
    exact absurd rfl hb72

end Go.Proofs.Ytailhdcackkegaa.Wd

/- ballot.Votes, at the votes of three that lives() asks for. -/
import Derived.Test.YtailhdcackkegaaB1
namespace Go.Proofs.Ytailhdcackkegaa.Wd
open Go.RowKit
set_option linter.unusedVariables false
set_option linter.unusedSimpArgs false

theorem is_c0 {w : World} {b : Nat} {b_0 b_1 b_2 b_3 b_4 b_5 b_6 : Bool} (hV : Bx w b [.bool b_0, .bool b_1, .bool b_2, .bool b_3, .bool b_4, .bool b_5, .bool b_6, .int .i64 3] 113) :
    CallsV Try.prog 81 #[(.pointer (some ⟨b, 0, none⟩)), (.int .i64 0)] w (fun r w' => r = .bool true ∧ Bel w w') := by
  have hb := Bel.refl w
  refine callsV_of Try.func81 (m := 17) Try.ntmps81 rfl rfl (l := [.pointer (some ⟨b, 0, none⟩), .int .i64 0, undef, undef, undef, undef, undef, undef, undef, undef, undef, undef, undef, undef, undef, undef, undef, undef, undef]) rfl ?_
  refine c_seq ?_
  refine c_region ?_
  refine s_val (v := (.bool false)) rfl (r_assign rfl) (rfl : _ = [_, _, _, _, _, _, _, _, _, _, _, _, _, _, _, _, _, _, _]) ?_
  refine s_nil rfl ?_
  refine x_seq ?_
  refine c_seq ?_
  refine c_region ?_
  refine s_val (v := (.pointer (some ⟨b, 0, none⟩))) rfl (r_move rfl) (rfl : _ = [_, _, _, _, _, _, _, _, _, _, _, _, _, _, _, _, _, _, _]) ?_
  refine s_val (v := (.bool true)) rfl (r_nep0 Try.underlying79 rfl) (rfl : _ = [_, _, _, _, _, _, _, _, _, _, _, _, _, _, _, _, _, _, _]) ?_
  refine s_val (v := (.bool true)) rfl (r_move rfl) (rfl : _ = [_, _, _, _, _, _, _, _, _, _, _, _, _, _, _, _, _, _, _]) ?_
  refine s_val (v := (.int .i64 0)) (wan_t (dj := 7) rfl rfl) (r_move rfl) (rfl : _ = [_, _, _, _, _, _, _, _, _, _, _, _, _, _, _, _, _, _, _]) ?_
  refine s_val (v := (.bool true)) (wan_t (dj := 7) rfl rfl) (r_geq (a := 0) (b := 0) rfl rfl) (rfl : _ = [_, _, _, _, _, _, _, _, _, _, _, _, _, _, _, _, _, _, _]) ?_
  refine s_val (v := (.bool true)) rfl (r_pick rfl rfl) (rfl : _ = [_, _, _, _, _, _, _, _, _, _, _, _, _, _, _, _, _, _, _]) ?_
  refine s_val (v := (.bool true)) rfl (r_move rfl) (rfl : _ = [_, _, _, _, _, _, _, _, _, _, _, _, _, _, _, _, _, _, _]) ?_
  refine s_val (v := (.int .i64 0)) (wan_t (dj := 11) rfl rfl) (r_move rfl) (rfl : _ = [_, _, _, _, _, _, _, _, _, _, _, _, _, _, _, _, _, _, _]) ?_
  refine s_val (v := (.pointer (some ⟨b, 0, none⟩))) (wan_t (dj := 11) rfl rfl) (r_move rfl) (rfl : _ = [_, _, _, _, _, _, _, _, _, _, _, _, _, _, _, _, _, _, _]) ?_
  refine s_val (v := (.pointer (some ⟨b, 0, none⟩))) (wan_t (dj := 11) rfl rfl) (r_nilck rfl) (rfl : _ = [_, _, _, _, _, _, _, _, _, _, _, _, _, _, _, _, _, _, _]) ?_
  refine s_val (v := (.pointer (some ⟨b, 7, none⟩))) (wan_t (dj := 11) rfl rfl) (r_field (k := 7) (o := 0) (by kernel_rfl) rfl) (rfl : _ = [_, _, _, _, _, _, _, _, _, _, _, _, _, _, _, _, _, _, _]) ?_
  refine s_val (v := (.int .i64 3)) (wan_t (dj := 11) rfl rfl) (r_load rfl (Ld.one Try.underlying3 rfl (hV.cell (i := 7) rfl))) (rfl : _ = [_, _, _, _, _, _, _, _, _, _, _, _, _, _, _, _, _, _, _]) ?_
  refine s_val (v := (.bool true)) (wan_t (dj := 11) rfl rfl) (r_lss (a := 0) (b := 3) rfl rfl) (rfl : _ = [_, _, _, _, _, _, _, _, _, _, _, _, _, _, _, _, _, _, _]) ?_
  refine s_val (v := (.bool true)) rfl (r_pick rfl rfl) (rfl : _ = [_, _, _, _, _, _, _, _, _, _, _, _, _, _, _, _, _, _, _]) ?_
  refine s_val (v := (.bool true)) rfl (r_assign rfl) (rfl : _ = [_, _, _, _, _, _, _, _, _, _, _, _, _, _, _, _, _, _, _]) ?_
  refine s_nil rfl ?_
  refine x_seq ?_
  refine c_ret ?_
  refine post_ret rfl rfl ?_
  exact ⟨rfl, hb⟩

theorem is_c1 {w : World} {b : Nat} {b_0 b_1 b_2 b_3 b_4 b_5 b_6 : Bool} (hV : Bx w b [.bool b_0, .bool b_1, .bool b_2, .bool b_3, .bool b_4, .bool b_5, .bool b_6, .int .i64 3] 113) :
    CallsV Try.prog 81 #[(.pointer (some ⟨b, 0, none⟩)), (.int .i64 1)] w (fun r w' => r = .bool true ∧ Bel w w') := by
  have hb := Bel.refl w
  refine callsV_of Try.func81 (m := 17) Try.ntmps81 rfl rfl (l := [.pointer (some ⟨b, 0, none⟩), .int .i64 1, undef, undef, undef, undef, undef, undef, undef, undef, undef, undef, undef, undef, undef, undef, undef, undef, undef]) rfl ?_
  refine c_seq ?_
  refine c_region ?_
  refine s_val (v := (.bool false)) rfl (r_assign rfl) (rfl : _ = [_, _, _, _, _, _, _, _, _, _, _, _, _, _, _, _, _, _, _]) ?_
  refine s_nil rfl ?_
  refine x_seq ?_
  refine c_seq ?_
  refine c_region ?_
  refine s_val (v := (.pointer (some ⟨b, 0, none⟩))) rfl (r_move rfl) (rfl : _ = [_, _, _, _, _, _, _, _, _, _, _, _, _, _, _, _, _, _, _]) ?_
  refine s_val (v := (.bool true)) rfl (r_nep0 Try.underlying79 rfl) (rfl : _ = [_, _, _, _, _, _, _, _, _, _, _, _, _, _, _, _, _, _, _]) ?_
  refine s_val (v := (.bool true)) rfl (r_move rfl) (rfl : _ = [_, _, _, _, _, _, _, _, _, _, _, _, _, _, _, _, _, _, _]) ?_
  refine s_val (v := (.int .i64 1)) (wan_t (dj := 7) rfl rfl) (r_move rfl) (rfl : _ = [_, _, _, _, _, _, _, _, _, _, _, _, _, _, _, _, _, _, _]) ?_
  refine s_val (v := (.bool true)) (wan_t (dj := 7) rfl rfl) (r_geq (a := 1) (b := 0) rfl rfl) (rfl : _ = [_, _, _, _, _, _, _, _, _, _, _, _, _, _, _, _, _, _, _]) ?_
  refine s_val (v := (.bool true)) rfl (r_pick rfl rfl) (rfl : _ = [_, _, _, _, _, _, _, _, _, _, _, _, _, _, _, _, _, _, _]) ?_
  refine s_val (v := (.bool true)) rfl (r_move rfl) (rfl : _ = [_, _, _, _, _, _, _, _, _, _, _, _, _, _, _, _, _, _, _]) ?_
  refine s_val (v := (.int .i64 1)) (wan_t (dj := 11) rfl rfl) (r_move rfl) (rfl : _ = [_, _, _, _, _, _, _, _, _, _, _, _, _, _, _, _, _, _, _]) ?_
  refine s_val (v := (.pointer (some ⟨b, 0, none⟩))) (wan_t (dj := 11) rfl rfl) (r_move rfl) (rfl : _ = [_, _, _, _, _, _, _, _, _, _, _, _, _, _, _, _, _, _, _]) ?_
  refine s_val (v := (.pointer (some ⟨b, 0, none⟩))) (wan_t (dj := 11) rfl rfl) (r_nilck rfl) (rfl : _ = [_, _, _, _, _, _, _, _, _, _, _, _, _, _, _, _, _, _, _]) ?_
  refine s_val (v := (.pointer (some ⟨b, 7, none⟩))) (wan_t (dj := 11) rfl rfl) (r_field (k := 7) (o := 0) (by kernel_rfl) rfl) (rfl : _ = [_, _, _, _, _, _, _, _, _, _, _, _, _, _, _, _, _, _, _]) ?_
  refine s_val (v := (.int .i64 3)) (wan_t (dj := 11) rfl rfl) (r_load rfl (Ld.one Try.underlying3 rfl (hV.cell (i := 7) rfl))) (rfl : _ = [_, _, _, _, _, _, _, _, _, _, _, _, _, _, _, _, _, _, _]) ?_
  refine s_val (v := (.bool true)) (wan_t (dj := 11) rfl rfl) (r_lss (a := 1) (b := 3) rfl rfl) (rfl : _ = [_, _, _, _, _, _, _, _, _, _, _, _, _, _, _, _, _, _, _]) ?_
  refine s_val (v := (.bool true)) rfl (r_pick rfl rfl) (rfl : _ = [_, _, _, _, _, _, _, _, _, _, _, _, _, _, _, _, _, _, _]) ?_
  refine s_val (v := (.bool true)) rfl (r_assign rfl) (rfl : _ = [_, _, _, _, _, _, _, _, _, _, _, _, _, _, _, _, _, _, _]) ?_
  refine s_nil rfl ?_
  refine x_seq ?_
  refine c_ret ?_
  refine post_ret rfl rfl ?_
  exact ⟨rfl, hb⟩

theorem is_c2 {w : World} {b : Nat} {b_0 b_1 b_2 b_3 b_4 b_5 b_6 : Bool} (hV : Bx w b [.bool b_0, .bool b_1, .bool b_2, .bool b_3, .bool b_4, .bool b_5, .bool b_6, .int .i64 3] 113) :
    CallsV Try.prog 81 #[(.pointer (some ⟨b, 0, none⟩)), (.int .i64 2)] w (fun r w' => r = .bool true ∧ Bel w w') := by
  have hb := Bel.refl w
  refine callsV_of Try.func81 (m := 17) Try.ntmps81 rfl rfl (l := [.pointer (some ⟨b, 0, none⟩), .int .i64 2, undef, undef, undef, undef, undef, undef, undef, undef, undef, undef, undef, undef, undef, undef, undef, undef, undef]) rfl ?_
  refine c_seq ?_
  refine c_region ?_
  refine s_val (v := (.bool false)) rfl (r_assign rfl) (rfl : _ = [_, _, _, _, _, _, _, _, _, _, _, _, _, _, _, _, _, _, _]) ?_
  refine s_nil rfl ?_
  refine x_seq ?_
  refine c_seq ?_
  refine c_region ?_
  refine s_val (v := (.pointer (some ⟨b, 0, none⟩))) rfl (r_move rfl) (rfl : _ = [_, _, _, _, _, _, _, _, _, _, _, _, _, _, _, _, _, _, _]) ?_
  refine s_val (v := (.bool true)) rfl (r_nep0 Try.underlying79 rfl) (rfl : _ = [_, _, _, _, _, _, _, _, _, _, _, _, _, _, _, _, _, _, _]) ?_
  refine s_val (v := (.bool true)) rfl (r_move rfl) (rfl : _ = [_, _, _, _, _, _, _, _, _, _, _, _, _, _, _, _, _, _, _]) ?_
  refine s_val (v := (.int .i64 2)) (wan_t (dj := 7) rfl rfl) (r_move rfl) (rfl : _ = [_, _, _, _, _, _, _, _, _, _, _, _, _, _, _, _, _, _, _]) ?_
  refine s_val (v := (.bool true)) (wan_t (dj := 7) rfl rfl) (r_geq (a := 2) (b := 0) rfl rfl) (rfl : _ = [_, _, _, _, _, _, _, _, _, _, _, _, _, _, _, _, _, _, _]) ?_
  refine s_val (v := (.bool true)) rfl (r_pick rfl rfl) (rfl : _ = [_, _, _, _, _, _, _, _, _, _, _, _, _, _, _, _, _, _, _]) ?_
  refine s_val (v := (.bool true)) rfl (r_move rfl) (rfl : _ = [_, _, _, _, _, _, _, _, _, _, _, _, _, _, _, _, _, _, _]) ?_
  refine s_val (v := (.int .i64 2)) (wan_t (dj := 11) rfl rfl) (r_move rfl) (rfl : _ = [_, _, _, _, _, _, _, _, _, _, _, _, _, _, _, _, _, _, _]) ?_
  refine s_val (v := (.pointer (some ⟨b, 0, none⟩))) (wan_t (dj := 11) rfl rfl) (r_move rfl) (rfl : _ = [_, _, _, _, _, _, _, _, _, _, _, _, _, _, _, _, _, _, _]) ?_
  refine s_val (v := (.pointer (some ⟨b, 0, none⟩))) (wan_t (dj := 11) rfl rfl) (r_nilck rfl) (rfl : _ = [_, _, _, _, _, _, _, _, _, _, _, _, _, _, _, _, _, _, _]) ?_
  refine s_val (v := (.pointer (some ⟨b, 7, none⟩))) (wan_t (dj := 11) rfl rfl) (r_field (k := 7) (o := 0) (by kernel_rfl) rfl) (rfl : _ = [_, _, _, _, _, _, _, _, _, _, _, _, _, _, _, _, _, _, _]) ?_
  refine s_val (v := (.int .i64 3)) (wan_t (dj := 11) rfl rfl) (r_load rfl (Ld.one Try.underlying3 rfl (hV.cell (i := 7) rfl))) (rfl : _ = [_, _, _, _, _, _, _, _, _, _, _, _, _, _, _, _, _, _, _]) ?_
  refine s_val (v := (.bool true)) (wan_t (dj := 11) rfl rfl) (r_lss (a := 2) (b := 3) rfl rfl) (rfl : _ = [_, _, _, _, _, _, _, _, _, _, _, _, _, _, _, _, _, _, _]) ?_
  refine s_val (v := (.bool true)) rfl (r_pick rfl rfl) (rfl : _ = [_, _, _, _, _, _, _, _, _, _, _, _, _, _, _, _, _, _, _]) ?_
  refine s_val (v := (.bool true)) rfl (r_assign rfl) (rfl : _ = [_, _, _, _, _, _, _, _, _, _, _, _, _, _, _, _, _, _, _]) ?_
  refine s_nil rfl ?_
  refine x_seq ?_
  refine c_ret ?_
  refine post_ret rfl rfl ?_
  exact ⟨rfl, hb⟩

theorem is_c3 {w : World} {b : Nat} {b_0 b_1 b_2 b_3 b_4 b_5 b_6 : Bool} (hV : Bx w b [.bool b_0, .bool b_1, .bool b_2, .bool b_3, .bool b_4, .bool b_5, .bool b_6, .int .i64 3] 113) :
    CallsV Try.prog 81 #[(.pointer (some ⟨b, 0, none⟩)), (.int .i64 3)] w (fun r w' => r = .bool false ∧ Bel w w') := by
  have hb := Bel.refl w
  refine callsV_of Try.func81 (m := 17) Try.ntmps81 rfl rfl (l := [.pointer (some ⟨b, 0, none⟩), .int .i64 3, undef, undef, undef, undef, undef, undef, undef, undef, undef, undef, undef, undef, undef, undef, undef, undef, undef]) rfl ?_
  refine c_seq ?_
  refine c_region ?_
  refine s_val (v := (.bool false)) rfl (r_assign rfl) (rfl : _ = [_, _, _, _, _, _, _, _, _, _, _, _, _, _, _, _, _, _, _]) ?_
  refine s_nil rfl ?_
  refine x_seq ?_
  refine c_seq ?_
  refine c_region ?_
  refine s_val (v := (.pointer (some ⟨b, 0, none⟩))) rfl (r_move rfl) (rfl : _ = [_, _, _, _, _, _, _, _, _, _, _, _, _, _, _, _, _, _, _]) ?_
  refine s_val (v := (.bool true)) rfl (r_nep0 Try.underlying79 rfl) (rfl : _ = [_, _, _, _, _, _, _, _, _, _, _, _, _, _, _, _, _, _, _]) ?_
  refine s_val (v := (.bool true)) rfl (r_move rfl) (rfl : _ = [_, _, _, _, _, _, _, _, _, _, _, _, _, _, _, _, _, _, _]) ?_
  refine s_val (v := (.int .i64 3)) (wan_t (dj := 7) rfl rfl) (r_move rfl) (rfl : _ = [_, _, _, _, _, _, _, _, _, _, _, _, _, _, _, _, _, _, _]) ?_
  refine s_val (v := (.bool true)) (wan_t (dj := 7) rfl rfl) (r_geq (a := 3) (b := 0) rfl rfl) (rfl : _ = [_, _, _, _, _, _, _, _, _, _, _, _, _, _, _, _, _, _, _]) ?_
  refine s_val (v := (.bool true)) rfl (r_pick rfl rfl) (rfl : _ = [_, _, _, _, _, _, _, _, _, _, _, _, _, _, _, _, _, _, _]) ?_
  refine s_val (v := (.bool true)) rfl (r_move rfl) (rfl : _ = [_, _, _, _, _, _, _, _, _, _, _, _, _, _, _, _, _, _, _]) ?_
  refine s_val (v := (.int .i64 3)) (wan_t (dj := 11) rfl rfl) (r_move rfl) (rfl : _ = [_, _, _, _, _, _, _, _, _, _, _, _, _, _, _, _, _, _, _]) ?_
  refine s_val (v := (.pointer (some ⟨b, 0, none⟩))) (wan_t (dj := 11) rfl rfl) (r_move rfl) (rfl : _ = [_, _, _, _, _, _, _, _, _, _, _, _, _, _, _, _, _, _, _]) ?_
  refine s_val (v := (.pointer (some ⟨b, 0, none⟩))) (wan_t (dj := 11) rfl rfl) (r_nilck rfl) (rfl : _ = [_, _, _, _, _, _, _, _, _, _, _, _, _, _, _, _, _, _, _]) ?_
  refine s_val (v := (.pointer (some ⟨b, 7, none⟩))) (wan_t (dj := 11) rfl rfl) (r_field (k := 7) (o := 0) (by kernel_rfl) rfl) (rfl : _ = [_, _, _, _, _, _, _, _, _, _, _, _, _, _, _, _, _, _, _]) ?_
  refine s_val (v := (.int .i64 3)) (wan_t (dj := 11) rfl rfl) (r_load rfl (Ld.one Try.underlying3 rfl (hV.cell (i := 7) rfl))) (rfl : _ = [_, _, _, _, _, _, _, _, _, _, _, _, _, _, _, _, _, _, _]) ?_
  refine s_val (v := (.bool false)) (wan_t (dj := 11) rfl rfl) (r_lss (a := 3) (b := 3) rfl rfl) (rfl : _ = [_, _, _, _, _, _, _, _, _, _, _, _, _, _, _, _, _, _, _]) ?_
  refine s_val (v := (.bool false)) rfl (r_pick rfl rfl) (rfl : _ = [_, _, _, _, _, _, _, _, _, _, _, _, _, _, _, _, _, _, _]) ?_
  refine s_val (v := (.bool false)) rfl (r_assign rfl) (rfl : _ = [_, _, _, _, _, _, _, _, _, _, _, _, _, _, _, _, _, _, _]) ?_
  refine s_nil rfl ?_
  refine x_seq ?_
  refine c_ret ?_
  refine post_ret rfl rfl ?_
  exact ⟨rfl, hb⟩

theorem is_c4 {w : World} {b : Nat} {b_0 b_1 b_2 b_3 b_4 b_5 b_6 : Bool} (hV : Bx w b [.bool b_0, .bool b_1, .bool b_2, .bool b_3, .bool b_4, .bool b_5, .bool b_6, .int .i64 3] 113) :
    CallsV Try.prog 81 #[(.pointer (some ⟨b, 0, none⟩)), (.int .i64 4)] w (fun r w' => r = .bool false ∧ Bel w w') := by
  have hb := Bel.refl w
  refine callsV_of Try.func81 (m := 17) Try.ntmps81 rfl rfl (l := [.pointer (some ⟨b, 0, none⟩), .int .i64 4, undef, undef, undef, undef, undef, undef, undef, undef, undef, undef, undef, undef, undef, undef, undef, undef, undef]) rfl ?_
  refine c_seq ?_
  refine c_region ?_
  refine s_val (v := (.bool false)) rfl (r_assign rfl) (rfl : _ = [_, _, _, _, _, _, _, _, _, _, _, _, _, _, _, _, _, _, _]) ?_
  refine s_nil rfl ?_
  refine x_seq ?_
  refine c_seq ?_
  refine c_region ?_
  refine s_val (v := (.pointer (some ⟨b, 0, none⟩))) rfl (r_move rfl) (rfl : _ = [_, _, _, _, _, _, _, _, _, _, _, _, _, _, _, _, _, _, _]) ?_
  refine s_val (v := (.bool true)) rfl (r_nep0 Try.underlying79 rfl) (rfl : _ = [_, _, _, _, _, _, _, _, _, _, _, _, _, _, _, _, _, _, _]) ?_
  refine s_val (v := (.bool true)) rfl (r_move rfl) (rfl : _ = [_, _, _, _, _, _, _, _, _, _, _, _, _, _, _, _, _, _, _]) ?_
  refine s_val (v := (.int .i64 4)) (wan_t (dj := 7) rfl rfl) (r_move rfl) (rfl : _ = [_, _, _, _, _, _, _, _, _, _, _, _, _, _, _, _, _, _, _]) ?_
  refine s_val (v := (.bool true)) (wan_t (dj := 7) rfl rfl) (r_geq (a := 4) (b := 0) rfl rfl) (rfl : _ = [_, _, _, _, _, _, _, _, _, _, _, _, _, _, _, _, _, _, _]) ?_
  refine s_val (v := (.bool true)) rfl (r_pick rfl rfl) (rfl : _ = [_, _, _, _, _, _, _, _, _, _, _, _, _, _, _, _, _, _, _]) ?_
  refine s_val (v := (.bool true)) rfl (r_move rfl) (rfl : _ = [_, _, _, _, _, _, _, _, _, _, _, _, _, _, _, _, _, _, _]) ?_
  refine s_val (v := (.int .i64 4)) (wan_t (dj := 11) rfl rfl) (r_move rfl) (rfl : _ = [_, _, _, _, _, _, _, _, _, _, _, _, _, _, _, _, _, _, _]) ?_
  refine s_val (v := (.pointer (some ⟨b, 0, none⟩))) (wan_t (dj := 11) rfl rfl) (r_move rfl) (rfl : _ = [_, _, _, _, _, _, _, _, _, _, _, _, _, _, _, _, _, _, _]) ?_
  refine s_val (v := (.pointer (some ⟨b, 0, none⟩))) (wan_t (dj := 11) rfl rfl) (r_nilck rfl) (rfl : _ = [_, _, _, _, _, _, _, _, _, _, _, _, _, _, _, _, _, _, _]) ?_
  refine s_val (v := (.pointer (some ⟨b, 7, none⟩))) (wan_t (dj := 11) rfl rfl) (r_field (k := 7) (o := 0) (by kernel_rfl) rfl) (rfl : _ = [_, _, _, _, _, _, _, _, _, _, _, _, _, _, _, _, _, _, _]) ?_
  refine s_val (v := (.int .i64 3)) (wan_t (dj := 11) rfl rfl) (r_load rfl (Ld.one Try.underlying3 rfl (hV.cell (i := 7) rfl))) (rfl : _ = [_, _, _, _, _, _, _, _, _, _, _, _, _, _, _, _, _, _, _]) ?_
  refine s_val (v := (.bool false)) (wan_t (dj := 11) rfl rfl) (r_lss (a := 4) (b := 3) rfl rfl) (rfl : _ = [_, _, _, _, _, _, _, _, _, _, _, _, _, _, _, _, _, _, _]) ?_
  refine s_val (v := (.bool false)) rfl (r_pick rfl rfl) (rfl : _ = [_, _, _, _, _, _, _, _, _, _, _, _, _, _, _, _, _, _, _]) ?_
  refine s_val (v := (.bool false)) rfl (r_assign rfl) (rfl : _ = [_, _, _, _, _, _, _, _, _, _, _, _, _, _, _, _, _, _, _]) ?_
  refine s_nil rfl ?_
  refine x_seq ?_
  refine c_ret ?_
  refine post_ret rfl rfl ?_
  exact ⟨rfl, hb⟩

theorem is_c5 {w : World} {b : Nat} {b_0 b_1 b_2 b_3 b_4 b_5 b_6 : Bool} (hV : Bx w b [.bool b_0, .bool b_1, .bool b_2, .bool b_3, .bool b_4, .bool b_5, .bool b_6, .int .i64 3] 113) :
    CallsV Try.prog 81 #[(.pointer (some ⟨b, 0, none⟩)), (.int .i64 5)] w (fun r w' => r = .bool false ∧ Bel w w') := by
  have hb := Bel.refl w
  refine callsV_of Try.func81 (m := 17) Try.ntmps81 rfl rfl (l := [.pointer (some ⟨b, 0, none⟩), .int .i64 5, undef, undef, undef, undef, undef, undef, undef, undef, undef, undef, undef, undef, undef, undef, undef, undef, undef]) rfl ?_
  refine c_seq ?_
  refine c_region ?_
  refine s_val (v := (.bool false)) rfl (r_assign rfl) (rfl : _ = [_, _, _, _, _, _, _, _, _, _, _, _, _, _, _, _, _, _, _]) ?_
  refine s_nil rfl ?_
  refine x_seq ?_
  refine c_seq ?_
  refine c_region ?_
  refine s_val (v := (.pointer (some ⟨b, 0, none⟩))) rfl (r_move rfl) (rfl : _ = [_, _, _, _, _, _, _, _, _, _, _, _, _, _, _, _, _, _, _]) ?_
  refine s_val (v := (.bool true)) rfl (r_nep0 Try.underlying79 rfl) (rfl : _ = [_, _, _, _, _, _, _, _, _, _, _, _, _, _, _, _, _, _, _]) ?_
  refine s_val (v := (.bool true)) rfl (r_move rfl) (rfl : _ = [_, _, _, _, _, _, _, _, _, _, _, _, _, _, _, _, _, _, _]) ?_
  refine s_val (v := (.int .i64 5)) (wan_t (dj := 7) rfl rfl) (r_move rfl) (rfl : _ = [_, _, _, _, _, _, _, _, _, _, _, _, _, _, _, _, _, _, _]) ?_
  refine s_val (v := (.bool true)) (wan_t (dj := 7) rfl rfl) (r_geq (a := 5) (b := 0) rfl rfl) (rfl : _ = [_, _, _, _, _, _, _, _, _, _, _, _, _, _, _, _, _, _, _]) ?_
  refine s_val (v := (.bool true)) rfl (r_pick rfl rfl) (rfl : _ = [_, _, _, _, _, _, _, _, _, _, _, _, _, _, _, _, _, _, _]) ?_
  refine s_val (v := (.bool true)) rfl (r_move rfl) (rfl : _ = [_, _, _, _, _, _, _, _, _, _, _, _, _, _, _, _, _, _, _]) ?_
  refine s_val (v := (.int .i64 5)) (wan_t (dj := 11) rfl rfl) (r_move rfl) (rfl : _ = [_, _, _, _, _, _, _, _, _, _, _, _, _, _, _, _, _, _, _]) ?_
  refine s_val (v := (.pointer (some ⟨b, 0, none⟩))) (wan_t (dj := 11) rfl rfl) (r_move rfl) (rfl : _ = [_, _, _, _, _, _, _, _, _, _, _, _, _, _, _, _, _, _, _]) ?_
  refine s_val (v := (.pointer (some ⟨b, 0, none⟩))) (wan_t (dj := 11) rfl rfl) (r_nilck rfl) (rfl : _ = [_, _, _, _, _, _, _, _, _, _, _, _, _, _, _, _, _, _, _]) ?_
  refine s_val (v := (.pointer (some ⟨b, 7, none⟩))) (wan_t (dj := 11) rfl rfl) (r_field (k := 7) (o := 0) (by kernel_rfl) rfl) (rfl : _ = [_, _, _, _, _, _, _, _, _, _, _, _, _, _, _, _, _, _, _]) ?_
  refine s_val (v := (.int .i64 3)) (wan_t (dj := 11) rfl rfl) (r_load rfl (Ld.one Try.underlying3 rfl (hV.cell (i := 7) rfl))) (rfl : _ = [_, _, _, _, _, _, _, _, _, _, _, _, _, _, _, _, _, _, _]) ?_
  refine s_val (v := (.bool false)) (wan_t (dj := 11) rfl rfl) (r_lss (a := 5) (b := 3) rfl rfl) (rfl : _ = [_, _, _, _, _, _, _, _, _, _, _, _, _, _, _, _, _, _, _]) ?_
  refine s_val (v := (.bool false)) rfl (r_pick rfl rfl) (rfl : _ = [_, _, _, _, _, _, _, _, _, _, _, _, _, _, _, _, _, _, _]) ?_
  refine s_val (v := (.bool false)) rfl (r_assign rfl) (rfl : _ = [_, _, _, _, _, _, _, _, _, _, _, _, _, _, _, _, _, _, _]) ?_
  refine s_nil rfl ?_
  refine x_seq ?_
  refine c_ret ?_
  refine post_ret rfl rfl ?_
  exact ⟨rfl, hb⟩

theorem is_c6 {w : World} {b : Nat} {b_0 b_1 b_2 b_3 b_4 b_5 b_6 : Bool} (hV : Bx w b [.bool b_0, .bool b_1, .bool b_2, .bool b_3, .bool b_4, .bool b_5, .bool b_6, .int .i64 3] 113) :
    CallsV Try.prog 81 #[(.pointer (some ⟨b, 0, none⟩)), (.int .i64 6)] w (fun r w' => r = .bool false ∧ Bel w w') := by
  have hb := Bel.refl w
  refine callsV_of Try.func81 (m := 17) Try.ntmps81 rfl rfl (l := [.pointer (some ⟨b, 0, none⟩), .int .i64 6, undef, undef, undef, undef, undef, undef, undef, undef, undef, undef, undef, undef, undef, undef, undef, undef, undef]) rfl ?_
  refine c_seq ?_
  refine c_region ?_
  refine s_val (v := (.bool false)) rfl (r_assign rfl) (rfl : _ = [_, _, _, _, _, _, _, _, _, _, _, _, _, _, _, _, _, _, _]) ?_
  refine s_nil rfl ?_
  refine x_seq ?_
  refine c_seq ?_
  refine c_region ?_
  refine s_val (v := (.pointer (some ⟨b, 0, none⟩))) rfl (r_move rfl) (rfl : _ = [_, _, _, _, _, _, _, _, _, _, _, _, _, _, _, _, _, _, _]) ?_
  refine s_val (v := (.bool true)) rfl (r_nep0 Try.underlying79 rfl) (rfl : _ = [_, _, _, _, _, _, _, _, _, _, _, _, _, _, _, _, _, _, _]) ?_
  refine s_val (v := (.bool true)) rfl (r_move rfl) (rfl : _ = [_, _, _, _, _, _, _, _, _, _, _, _, _, _, _, _, _, _, _]) ?_
  refine s_val (v := (.int .i64 6)) (wan_t (dj := 7) rfl rfl) (r_move rfl) (rfl : _ = [_, _, _, _, _, _, _, _, _, _, _, _, _, _, _, _, _, _, _]) ?_
  refine s_val (v := (.bool true)) (wan_t (dj := 7) rfl rfl) (r_geq (a := 6) (b := 0) rfl rfl) (rfl : _ = [_, _, _, _, _, _, _, _, _, _, _, _, _, _, _, _, _, _, _]) ?_
  refine s_val (v := (.bool true)) rfl (r_pick rfl rfl) (rfl : _ = [_, _, _, _, _, _, _, _, _, _, _, _, _, _, _, _, _, _, _]) ?_
  refine s_val (v := (.bool true)) rfl (r_move rfl) (rfl : _ = [_, _, _, _, _, _, _, _, _, _, _, _, _, _, _, _, _, _, _]) ?_
  refine s_val (v := (.int .i64 6)) (wan_t (dj := 11) rfl rfl) (r_move rfl) (rfl : _ = [_, _, _, _, _, _, _, _, _, _, _, _, _, _, _, _, _, _, _]) ?_
  refine s_val (v := (.pointer (some ⟨b, 0, none⟩))) (wan_t (dj := 11) rfl rfl) (r_move rfl) (rfl : _ = [_, _, _, _, _, _, _, _, _, _, _, _, _, _, _, _, _, _, _]) ?_
  refine s_val (v := (.pointer (some ⟨b, 0, none⟩))) (wan_t (dj := 11) rfl rfl) (r_nilck rfl) (rfl : _ = [_, _, _, _, _, _, _, _, _, _, _, _, _, _, _, _, _, _, _]) ?_
  refine s_val (v := (.pointer (some ⟨b, 7, none⟩))) (wan_t (dj := 11) rfl rfl) (r_field (k := 7) (o := 0) (by kernel_rfl) rfl) (rfl : _ = [_, _, _, _, _, _, _, _, _, _, _, _, _, _, _, _, _, _, _]) ?_
  refine s_val (v := (.int .i64 3)) (wan_t (dj := 11) rfl rfl) (r_load rfl (Ld.one Try.underlying3 rfl (hV.cell (i := 7) rfl))) (rfl : _ = [_, _, _, _, _, _, _, _, _, _, _, _, _, _, _, _, _, _, _]) ?_
  refine s_val (v := (.bool false)) (wan_t (dj := 11) rfl rfl) (r_lss (a := 6) (b := 3) rfl rfl) (rfl : _ = [_, _, _, _, _, _, _, _, _, _, _, _, _, _, _, _, _, _, _]) ?_
  refine s_val (v := (.bool false)) rfl (r_pick rfl rfl) (rfl : _ = [_, _, _, _, _, _, _, _, _, _, _, _, _, _, _, _, _, _, _]) ?_
  refine s_val (v := (.bool false)) rfl (r_assign rfl) (rfl : _ = [_, _, _, _, _, _, _, _, _, _, _, _, _, _, _, _, _, _, _]) ?_
  refine s_nil rfl ?_
  refine x_seq ?_
  refine c_ret ?_
  refine post_ret rfl rfl ?_
  exact ⟨rfl, hb⟩

theorem hasn_c0 {w : World} {b : Nat} {b_0 b_1 b_2 b_3 b_4 b_5 b_6 : Bool} (hV : Bx w b [.bool b_0, .bool b_1, .bool b_2, .bool b_3, .bool b_4, .bool b_5, .bool b_6, .int .i64 3] 113) :
    CallsV Try.prog 127 #[(.pointer (some ⟨b, 0, none⟩)), (.int .i64 0)] w (fun r w' => r = .bool b_0 ∧ Bel w w') := by
  have hb := Bel.refl w
  refine callsV_of Try.func127 (m := 14) Try.ntmps127 rfl rfl (l := [.pointer (some ⟨b, 0, none⟩), .int .i64 0, undef, undef, undef, undef, undef, undef, undef, undef, undef, undef, undef, undef, undef, undef]) rfl ?_
  refine c_seq ?_
  refine c_region ?_
  refine s_val (v := (.bool false)) rfl (r_assign rfl) (rfl : _ = [_, _, _, _, _, _, _, _, _, _, _, _, _, _, _, _]) ?_
  refine s_nil rfl ?_
  refine x_seq ?_
  refine c_seq ?_
  refine c_region ?_
  refine s_val (v := (.pointer (some ⟨b, 0, none⟩))) rfl (r_move rfl) (rfl : _ = [_, _, _, _, _, _, _, _, _, _, _, _, _, _, _, _]) ?_
  refine s_val (v := (.int .i64 0)) rfl (r_move rfl) (rfl : _ = [_, _, _, _, _, _, _, _, _, _, _, _, _, _, _, _]) ?_
  refine s_call 81 _ _ (by kernel_rfl) rfl rfl (is_c0 hV) ?_
  rintro _ w1 ⟨rfl, hb2⟩
  refine norm (rfl : _ = [_, _, _, _, _, _, _, _, _, _, _, _, _, _, _, _]) ?_
  have hc3 := Chg.of_bel hb2
  have hs4 := hc3.size
  replace hb := hb.chg hc3 (by omega)
  replace hV := hV.chg hc3 (by omega)
  refine s_val (v := (.bool true)) rfl (r_move rfl) (rfl : _ = [_, _, _, _, _, _, _, _, _, _, _, _, _, _, _, _]) ?_
  refine s_val (v := (.pointer (some ⟨b, 0, none⟩))) (wan_t (dj := 8) rfl rfl) (r_move rfl) (rfl : _ = [_, _, _, _, _, _, _, _, _, _, _, _, _, _, _, _]) ?_
  refine s_val (v := (.int .i64 0)) (wan_t (dj := 8) rfl rfl) (r_move rfl) (rfl : _ = [_, _, _, _, _, _, _, _, _, _, _, _, _, _, _, _]) ?_
  refine s_val (v := (.pointer (some ⟨b, 0, none⟩))) (wan_t (dj := 8) rfl rfl) (r_nilck rfl) (rfl : _ = [_, _, _, _, _, _, _, _, _, _, _, _, _, _, _, _]) ?_
  refine s_val (v := (.pointer (some ⟨b, 0, none⟩))) (wan_t (dj := 8) rfl rfl) (r_field (k := 0) (o := 0) (by kernel_rfl) rfl) (rfl : _ = [_, _, _, _, _, _, _, _, _, _, _, _, _, _, _, _]) ?_
  refine s_val (v := (.pointer (some ⟨b, 0, none⟩))) (wan_t (dj := 8) rfl rfl) (r_indexA (sz := 1) (n := 7) (o := 0) (j := 0) (by kernel_rfl) rfl rfl (by decide) (by decide)) (rfl : _ = [_, _, _, _, _, _, _, _, _, _, _, _, _, _, _, _]) ?_
  refine s_boolv (wan_t (dj := 8) rfl rfl) (r_load rfl (Ld.one Try.underlying4 rfl (hV.cell (i := 0) rfl))) ?_
  intro b5 hb5
  refine norm (rfl : _ = [_, _, _, _, _, _, _, _, _, _, _, _, _, _, _, _]) ?_
  refine s_val (v := (.bool b5)) rfl (r_pick rfl rfl) (rfl : _ = [_, _, _, _, _, _, _, _, _, _, _, _, _, _, _, _]) ?_
  refine s_val (v := (.bool b5)) rfl (r_assign rfl) (rfl : _ = [_, _, _, _, _, _, _, _, _, _, _, _, _, _, _, _]) ?_
  refine s_nil rfl ?_
  refine x_seq ?_
  refine c_ret ?_
  refine post_ret rfl rfl ?_
  exact ⟨by subst_vars; rfl, hb⟩

theorem hasn_c1 {w : World} {b : Nat} {b_0 b_1 b_2 b_3 b_4 b_5 b_6 : Bool} (hV : Bx w b [.bool b_0, .bool b_1, .bool b_2, .bool b_3, .bool b_4, .bool b_5, .bool b_6, .int .i64 3] 113) :
    CallsV Try.prog 127 #[(.pointer (some ⟨b, 0, none⟩)), (.int .i64 1)] w (fun r w' => r = .bool b_1 ∧ Bel w w') := by
  have hb := Bel.refl w
  refine callsV_of Try.func127 (m := 14) Try.ntmps127 rfl rfl (l := [.pointer (some ⟨b, 0, none⟩), .int .i64 1, undef, undef, undef, undef, undef, undef, undef, undef, undef, undef, undef, undef, undef, undef]) rfl ?_
  refine c_seq ?_
  refine c_region ?_
  refine s_val (v := (.bool false)) rfl (r_assign rfl) (rfl : _ = [_, _, _, _, _, _, _, _, _, _, _, _, _, _, _, _]) ?_
  refine s_nil rfl ?_
  refine x_seq ?_
  refine c_seq ?_
  refine c_region ?_
  refine s_val (v := (.pointer (some ⟨b, 0, none⟩))) rfl (r_move rfl) (rfl : _ = [_, _, _, _, _, _, _, _, _, _, _, _, _, _, _, _]) ?_
  refine s_val (v := (.int .i64 1)) rfl (r_move rfl) (rfl : _ = [_, _, _, _, _, _, _, _, _, _, _, _, _, _, _, _]) ?_
  refine s_call 81 _ _ (by kernel_rfl) rfl rfl (is_c1 hV) ?_
  rintro _ w1 ⟨rfl, hb2⟩
  refine norm (rfl : _ = [_, _, _, _, _, _, _, _, _, _, _, _, _, _, _, _]) ?_
  have hc3 := Chg.of_bel hb2
  have hs4 := hc3.size
  replace hb := hb.chg hc3 (by omega)
  replace hV := hV.chg hc3 (by omega)
  refine s_val (v := (.bool true)) rfl (r_move rfl) (rfl : _ = [_, _, _, _, _, _, _, _, _, _, _, _, _, _, _, _]) ?_
  refine s_val (v := (.pointer (some ⟨b, 0, none⟩))) (wan_t (dj := 8) rfl rfl) (r_move rfl) (rfl : _ = [_, _, _, _, _, _, _, _, _, _, _, _, _, _, _, _]) ?_
  refine s_val (v := (.int .i64 1)) (wan_t (dj := 8) rfl rfl) (r_move rfl) (rfl : _ = [_, _, _, _, _, _, _, _, _, _, _, _, _, _, _, _]) ?_
  refine s_val (v := (.pointer (some ⟨b, 0, none⟩))) (wan_t (dj := 8) rfl rfl) (r_nilck rfl) (rfl : _ = [_, _, _, _, _, _, _, _, _, _, _, _, _, _, _, _]) ?_
  refine s_val (v := (.pointer (some ⟨b, 0, none⟩))) (wan_t (dj := 8) rfl rfl) (r_field (k := 0) (o := 0) (by kernel_rfl) rfl) (rfl : _ = [_, _, _, _, _, _, _, _, _, _, _, _, _, _, _, _]) ?_
  refine s_val (v := (.pointer (some ⟨b, 1, none⟩))) (wan_t (dj := 8) rfl rfl) (r_indexA (sz := 1) (n := 7) (o := 0) (j := 1) (by kernel_rfl) rfl rfl (by decide) (by decide)) (rfl : _ = [_, _, _, _, _, _, _, _, _, _, _, _, _, _, _, _]) ?_
  refine s_boolv (wan_t (dj := 8) rfl rfl) (r_load rfl (Ld.one Try.underlying4 rfl (hV.cell (i := 1) rfl))) ?_
  intro b5 hb5
  refine norm (rfl : _ = [_, _, _, _, _, _, _, _, _, _, _, _, _, _, _, _]) ?_
  refine s_val (v := (.bool b5)) rfl (r_pick rfl rfl) (rfl : _ = [_, _, _, _, _, _, _, _, _, _, _, _, _, _, _, _]) ?_
  refine s_val (v := (.bool b5)) rfl (r_assign rfl) (rfl : _ = [_, _, _, _, _, _, _, _, _, _, _, _, _, _, _, _]) ?_
  refine s_nil rfl ?_
  refine x_seq ?_
  refine c_ret ?_
  refine post_ret rfl rfl ?_
  exact ⟨by subst_vars; rfl, hb⟩

theorem hasn_c2 {w : World} {b : Nat} {b_0 b_1 b_2 b_3 b_4 b_5 b_6 : Bool} (hV : Bx w b [.bool b_0, .bool b_1, .bool b_2, .bool b_3, .bool b_4, .bool b_5, .bool b_6, .int .i64 3] 113) :
    CallsV Try.prog 127 #[(.pointer (some ⟨b, 0, none⟩)), (.int .i64 2)] w (fun r w' => r = .bool b_2 ∧ Bel w w') := by
  have hb := Bel.refl w
  refine callsV_of Try.func127 (m := 14) Try.ntmps127 rfl rfl (l := [.pointer (some ⟨b, 0, none⟩), .int .i64 2, undef, undef, undef, undef, undef, undef, undef, undef, undef, undef, undef, undef, undef, undef]) rfl ?_
  refine c_seq ?_
  refine c_region ?_
  refine s_val (v := (.bool false)) rfl (r_assign rfl) (rfl : _ = [_, _, _, _, _, _, _, _, _, _, _, _, _, _, _, _]) ?_
  refine s_nil rfl ?_
  refine x_seq ?_
  refine c_seq ?_
  refine c_region ?_
  refine s_val (v := (.pointer (some ⟨b, 0, none⟩))) rfl (r_move rfl) (rfl : _ = [_, _, _, _, _, _, _, _, _, _, _, _, _, _, _, _]) ?_
  refine s_val (v := (.int .i64 2)) rfl (r_move rfl) (rfl : _ = [_, _, _, _, _, _, _, _, _, _, _, _, _, _, _, _]) ?_
  refine s_call 81 _ _ (by kernel_rfl) rfl rfl (is_c2 hV) ?_
  rintro _ w1 ⟨rfl, hb2⟩
  refine norm (rfl : _ = [_, _, _, _, _, _, _, _, _, _, _, _, _, _, _, _]) ?_
  have hc3 := Chg.of_bel hb2
  have hs4 := hc3.size
  replace hb := hb.chg hc3 (by omega)
  replace hV := hV.chg hc3 (by omega)
  refine s_val (v := (.bool true)) rfl (r_move rfl) (rfl : _ = [_, _, _, _, _, _, _, _, _, _, _, _, _, _, _, _]) ?_
  refine s_val (v := (.pointer (some ⟨b, 0, none⟩))) (wan_t (dj := 8) rfl rfl) (r_move rfl) (rfl : _ = [_, _, _, _, _, _, _, _, _, _, _, _, _, _, _, _]) ?_
  refine s_val (v := (.int .i64 2)) (wan_t (dj := 8) rfl rfl) (r_move rfl) (rfl : _ = [_, _, _, _, _, _, _, _, _, _, _, _, _, _, _, _]) ?_
  refine s_val (v := (.pointer (some ⟨b, 0, none⟩))) (wan_t (dj := 8) rfl rfl) (r_nilck rfl) (rfl : _ = [_, _, _, _, _, _, _, _, _, _, _, _, _, _, _, _]) ?_
  refine s_val (v := (.pointer (some ⟨b, 0, none⟩))) (wan_t (dj := 8) rfl rfl) (r_field (k := 0) (o := 0) (by kernel_rfl) rfl) (rfl : _ = [_, _, _, _, _, _, _, _, _, _, _, _, _, _, _, _]) ?_
  refine s_val (v := (.pointer (some ⟨b, 2, none⟩))) (wan_t (dj := 8) rfl rfl) (r_indexA (sz := 1) (n := 7) (o := 0) (j := 2) (by kernel_rfl) rfl rfl (by decide) (by decide)) (rfl : _ = [_, _, _, _, _, _, _, _, _, _, _, _, _, _, _, _]) ?_
  refine s_boolv (wan_t (dj := 8) rfl rfl) (r_load rfl (Ld.one Try.underlying4 rfl (hV.cell (i := 2) rfl))) ?_
  intro b5 hb5
  refine norm (rfl : _ = [_, _, _, _, _, _, _, _, _, _, _, _, _, _, _, _]) ?_
  refine s_val (v := (.bool b5)) rfl (r_pick rfl rfl) (rfl : _ = [_, _, _, _, _, _, _, _, _, _, _, _, _, _, _, _]) ?_
  refine s_val (v := (.bool b5)) rfl (r_assign rfl) (rfl : _ = [_, _, _, _, _, _, _, _, _, _, _, _, _, _, _, _]) ?_
  refine s_nil rfl ?_
  refine x_seq ?_
  refine c_ret ?_
  refine post_ret rfl rfl ?_
  exact ⟨by subst_vars; rfl, hb⟩

theorem hasn_c3 {w : World} {b : Nat} {b_0 b_1 b_2 b_3 b_4 b_5 b_6 : Bool} (hV : Bx w b [.bool b_0, .bool b_1, .bool b_2, .bool b_3, .bool b_4, .bool b_5, .bool b_6, .int .i64 3] 113) :
    CallsV Try.prog 127 #[(.pointer (some ⟨b, 0, none⟩)), (.int .i64 3)] w (fun r w' => r = .bool false ∧ Bel w w') := by
  have hb := Bel.refl w
  refine callsV_of Try.func127 (m := 14) Try.ntmps127 rfl rfl (l := [.pointer (some ⟨b, 0, none⟩), .int .i64 3, undef, undef, undef, undef, undef, undef, undef, undef, undef, undef, undef, undef, undef, undef]) rfl ?_
  refine c_seq ?_
  refine c_region ?_
  refine s_val (v := (.bool false)) rfl (r_assign rfl) (rfl : _ = [_, _, _, _, _, _, _, _, _, _, _, _, _, _, _, _]) ?_
  refine s_nil rfl ?_
  refine x_seq ?_
  refine c_seq ?_
  refine c_region ?_
  refine s_val (v := (.pointer (some ⟨b, 0, none⟩))) rfl (r_move rfl) (rfl : _ = [_, _, _, _, _, _, _, _, _, _, _, _, _, _, _, _]) ?_
  refine s_val (v := (.int .i64 3)) rfl (r_move rfl) (rfl : _ = [_, _, _, _, _, _, _, _, _, _, _, _, _, _, _, _]) ?_
  refine s_call 81 _ _ (by kernel_rfl) rfl rfl (is_c3 hV) ?_
  rintro _ w1 ⟨rfl, hb2⟩
  refine norm (rfl : _ = [_, _, _, _, _, _, _, _, _, _, _, _, _, _, _, _]) ?_
  have hc3 := Chg.of_bel hb2
  have hs4 := hc3.size
  replace hb := hb.chg hc3 (by omega)
  replace hV := hV.chg hc3 (by omega)
  refine s_val (v := (.bool false)) rfl (r_move rfl) (rfl : _ = [_, _, _, _, _, _, _, _, _, _, _, _, _, _, _, _]) ?_
  refine s_skip (wan_f (dj := 8) rfl rfl rfl) (rfl : _ = [_, _, _, _, _, _, _, _, _, _, _, _, _, _, _, _]) ?_
  refine s_skip (wan_f (dj := 8) rfl rfl rfl) (rfl : _ = [_, _, _, _, _, _, _, _, _, _, _, _, _, _, _, _]) ?_
  refine s_skip (wan_f (dj := 8) rfl rfl rfl) (rfl : _ = [_, _, _, _, _, _, _, _, _, _, _, _, _, _, _, _]) ?_
  refine s_skip (wan_f (dj := 8) rfl rfl rfl) (rfl : _ = [_, _, _, _, _, _, _, _, _, _, _, _, _, _, _, _]) ?_
  refine s_skip (wan_f (dj := 8) rfl rfl rfl) (rfl : _ = [_, _, _, _, _, _, _, _, _, _, _, _, _, _, _, _]) ?_
  refine s_skip (wan_f (dj := 8) rfl rfl rfl) (rfl : _ = [_, _, _, _, _, _, _, _, _, _, _, _, _, _, _, _]) ?_
  refine s_val (v := (.bool false)) rfl (r_pick rfl rfl) (rfl : _ = [_, _, _, _, _, _, _, _, _, _, _, _, _, _, _, _]) ?_
  refine s_val (v := (.bool false)) rfl (r_assign rfl) (rfl : _ = [_, _, _, _, _, _, _, _, _, _, _, _, _, _, _, _]) ?_
  refine s_nil rfl ?_
  refine x_seq ?_
  refine c_ret ?_
  refine post_ret rfl rfl ?_
  exact ⟨rfl, hb⟩

theorem hasn_c4 {w : World} {b : Nat} {b_0 b_1 b_2 b_3 b_4 b_5 b_6 : Bool} (hV : Bx w b [.bool b_0, .bool b_1, .bool b_2, .bool b_3, .bool b_4, .bool b_5, .bool b_6, .int .i64 3] 113) :
    CallsV Try.prog 127 #[(.pointer (some ⟨b, 0, none⟩)), (.int .i64 4)] w (fun r w' => r = .bool false ∧ Bel w w') := by
  have hb := Bel.refl w
  refine callsV_of Try.func127 (m := 14) Try.ntmps127 rfl rfl (l := [.pointer (some ⟨b, 0, none⟩), .int .i64 4, undef, undef, undef, undef, undef, undef, undef, undef, undef, undef, undef, undef, undef, undef]) rfl ?_
  refine c_seq ?_
  refine c_region ?_
  refine s_val (v := (.bool false)) rfl (r_assign rfl) (rfl : _ = [_, _, _, _, _, _, _, _, _, _, _, _, _, _, _, _]) ?_
  refine s_nil rfl ?_
  refine x_seq ?_
  refine c_seq ?_
  refine c_region ?_
  refine s_val (v := (.pointer (some ⟨b, 0, none⟩))) rfl (r_move rfl) (rfl : _ = [_, _, _, _, _, _, _, _, _, _, _, _, _, _, _, _]) ?_
  refine s_val (v := (.int .i64 4)) rfl (r_move rfl) (rfl : _ = [_, _, _, _, _, _, _, _, _, _, _, _, _, _, _, _]) ?_
  refine s_call 81 _ _ (by kernel_rfl) rfl rfl (is_c4 hV) ?_
  rintro _ w1 ⟨rfl, hb2⟩
  refine norm (rfl : _ = [_, _, _, _, _, _, _, _, _, _, _, _, _, _, _, _]) ?_
  have hc3 := Chg.of_bel hb2
  have hs4 := hc3.size
  replace hb := hb.chg hc3 (by omega)
  replace hV := hV.chg hc3 (by omega)
  refine s_val (v := (.bool false)) rfl (r_move rfl) (rfl : _ = [_, _, _, _, _, _, _, _, _, _, _, _, _, _, _, _]) ?_
  refine s_skip (wan_f (dj := 8) rfl rfl rfl) (rfl : _ = [_, _, _, _, _, _, _, _, _, _, _, _, _, _, _, _]) ?_
  refine s_skip (wan_f (dj := 8) rfl rfl rfl) (rfl : _ = [_, _, _, _, _, _, _, _, _, _, _, _, _, _, _, _]) ?_
  refine s_skip (wan_f (dj := 8) rfl rfl rfl) (rfl : _ = [_, _, _, _, _, _, _, _, _, _, _, _, _, _, _, _]) ?_
  refine s_skip (wan_f (dj := 8) rfl rfl rfl) (rfl : _ = [_, _, _, _, _, _, _, _, _, _, _, _, _, _, _, _]) ?_
  refine s_skip (wan_f (dj := 8) rfl rfl rfl) (rfl : _ = [_, _, _, _, _, _, _, _, _, _, _, _, _, _, _, _]) ?_
  refine s_skip (wan_f (dj := 8) rfl rfl rfl) (rfl : _ = [_, _, _, _, _, _, _, _, _, _, _, _, _, _, _, _]) ?_
  refine s_val (v := (.bool false)) rfl (r_pick rfl rfl) (rfl : _ = [_, _, _, _, _, _, _, _, _, _, _, _, _, _, _, _]) ?_
  refine s_val (v := (.bool false)) rfl (r_assign rfl) (rfl : _ = [_, _, _, _, _, _, _, _, _, _, _, _, _, _, _, _]) ?_
  refine s_nil rfl ?_
  refine x_seq ?_
  refine c_ret ?_
  refine post_ret rfl rfl ?_
  exact ⟨rfl, hb⟩

theorem hasn_c5 {w : World} {b : Nat} {b_0 b_1 b_2 b_3 b_4 b_5 b_6 : Bool} (hV : Bx w b [.bool b_0, .bool b_1, .bool b_2, .bool b_3, .bool b_4, .bool b_5, .bool b_6, .int .i64 3] 113) :
    CallsV Try.prog 127 #[(.pointer (some ⟨b, 0, none⟩)), (.int .i64 5)] w (fun r w' => r = .bool false ∧ Bel w w') := by
  have hb := Bel.refl w
  refine callsV_of Try.func127 (m := 14) Try.ntmps127 rfl rfl (l := [.pointer (some ⟨b, 0, none⟩), .int .i64 5, undef, undef, undef, undef, undef, undef, undef, undef, undef, undef, undef, undef, undef, undef]) rfl ?_
  refine c_seq ?_
  refine c_region ?_
  refine s_val (v := (.bool false)) rfl (r_assign rfl) (rfl : _ = [_, _, _, _, _, _, _, _, _, _, _, _, _, _, _, _]) ?_
  refine s_nil rfl ?_
  refine x_seq ?_
  refine c_seq ?_
  refine c_region ?_
  refine s_val (v := (.pointer (some ⟨b, 0, none⟩))) rfl (r_move rfl) (rfl : _ = [_, _, _, _, _, _, _, _, _, _, _, _, _, _, _, _]) ?_
  refine s_val (v := (.int .i64 5)) rfl (r_move rfl) (rfl : _ = [_, _, _, _, _, _, _, _, _, _, _, _, _, _, _, _]) ?_
  refine s_call 81 _ _ (by kernel_rfl) rfl rfl (is_c5 hV) ?_
  rintro _ w1 ⟨rfl, hb2⟩
  refine norm (rfl : _ = [_, _, _, _, _, _, _, _, _, _, _, _, _, _, _, _]) ?_
  have hc3 := Chg.of_bel hb2
  have hs4 := hc3.size
  replace hb := hb.chg hc3 (by omega)
  replace hV := hV.chg hc3 (by omega)
  refine s_val (v := (.bool false)) rfl (r_move rfl) (rfl : _ = [_, _, _, _, _, _, _, _, _, _, _, _, _, _, _, _]) ?_
  refine s_skip (wan_f (dj := 8) rfl rfl rfl) (rfl : _ = [_, _, _, _, _, _, _, _, _, _, _, _, _, _, _, _]) ?_
  refine s_skip (wan_f (dj := 8) rfl rfl rfl) (rfl : _ = [_, _, _, _, _, _, _, _, _, _, _, _, _, _, _, _]) ?_
  refine s_skip (wan_f (dj := 8) rfl rfl rfl) (rfl : _ = [_, _, _, _, _, _, _, _, _, _, _, _, _, _, _, _]) ?_
  refine s_skip (wan_f (dj := 8) rfl rfl rfl) (rfl : _ = [_, _, _, _, _, _, _, _, _, _, _, _, _, _, _, _]) ?_
  refine s_skip (wan_f (dj := 8) rfl rfl rfl) (rfl : _ = [_, _, _, _, _, _, _, _, _, _, _, _, _, _, _, _]) ?_
  refine s_skip (wan_f (dj := 8) rfl rfl rfl) (rfl : _ = [_, _, _, _, _, _, _, _, _, _, _, _, _, _, _, _]) ?_
  refine s_val (v := (.bool false)) rfl (r_pick rfl rfl) (rfl : _ = [_, _, _, _, _, _, _, _, _, _, _, _, _, _, _, _]) ?_
  refine s_val (v := (.bool false)) rfl (r_assign rfl) (rfl : _ = [_, _, _, _, _, _, _, _, _, _, _, _, _, _, _, _]) ?_
  refine s_nil rfl ?_
  refine x_seq ?_
  refine c_ret ?_
  refine post_ret rfl rfl ?_
  exact ⟨rfl, hb⟩

theorem hasn_c6 {w : World} {b : Nat} {b_0 b_1 b_2 b_3 b_4 b_5 b_6 : Bool} (hV : Bx w b [.bool b_0, .bool b_1, .bool b_2, .bool b_3, .bool b_4, .bool b_5, .bool b_6, .int .i64 3] 113) :
    CallsV Try.prog 127 #[(.pointer (some ⟨b, 0, none⟩)), (.int .i64 6)] w (fun r w' => r = .bool false ∧ Bel w w') := by
  have hb := Bel.refl w
  refine callsV_of Try.func127 (m := 14) Try.ntmps127 rfl rfl (l := [.pointer (some ⟨b, 0, none⟩), .int .i64 6, undef, undef, undef, undef, undef, undef, undef, undef, undef, undef, undef, undef, undef, undef]) rfl ?_
  refine c_seq ?_
  refine c_region ?_
  refine s_val (v := (.bool false)) rfl (r_assign rfl) (rfl : _ = [_, _, _, _, _, _, _, _, _, _, _, _, _, _, _, _]) ?_
  refine s_nil rfl ?_
  refine x_seq ?_
  refine c_seq ?_
  refine c_region ?_
  refine s_val (v := (.pointer (some ⟨b, 0, none⟩))) rfl (r_move rfl) (rfl : _ = [_, _, _, _, _, _, _, _, _, _, _, _, _, _, _, _]) ?_
  refine s_val (v := (.int .i64 6)) rfl (r_move rfl) (rfl : _ = [_, _, _, _, _, _, _, _, _, _, _, _, _, _, _, _]) ?_
  refine s_call 81 _ _ (by kernel_rfl) rfl rfl (is_c6 hV) ?_
  rintro _ w1 ⟨rfl, hb2⟩
  refine norm (rfl : _ = [_, _, _, _, _, _, _, _, _, _, _, _, _, _, _, _]) ?_
  have hc3 := Chg.of_bel hb2
  have hs4 := hc3.size
  replace hb := hb.chg hc3 (by omega)
  replace hV := hV.chg hc3 (by omega)
  refine s_val (v := (.bool false)) rfl (r_move rfl) (rfl : _ = [_, _, _, _, _, _, _, _, _, _, _, _, _, _, _, _]) ?_
  refine s_skip (wan_f (dj := 8) rfl rfl rfl) (rfl : _ = [_, _, _, _, _, _, _, _, _, _, _, _, _, _, _, _]) ?_
  refine s_skip (wan_f (dj := 8) rfl rfl rfl) (rfl : _ = [_, _, _, _, _, _, _, _, _, _, _, _, _, _, _, _]) ?_
  refine s_skip (wan_f (dj := 8) rfl rfl rfl) (rfl : _ = [_, _, _, _, _, _, _, _, _, _, _, _, _, _, _, _]) ?_
  refine s_skip (wan_f (dj := 8) rfl rfl rfl) (rfl : _ = [_, _, _, _, _, _, _, _, _, _, _, _, _, _, _, _]) ?_
  refine s_skip (wan_f (dj := 8) rfl rfl rfl) (rfl : _ = [_, _, _, _, _, _, _, _, _, _, _, _, _, _, _, _]) ?_
  refine s_skip (wan_f (dj := 8) rfl rfl rfl) (rfl : _ = [_, _, _, _, _, _, _, _, _, _, _, _, _, _, _, _]) ?_
  refine s_val (v := (.bool false)) rfl (r_pick rfl rfl) (rfl : _ = [_, _, _, _, _, _, _, _, _, _, _, _, _, _, _, _]) ?_
  refine s_val (v := (.bool false)) rfl (r_assign rfl) (rfl : _ = [_, _, _, _, _, _, _, _, _, _, _, _, _, _, _, _]) ?_
  refine s_nil rfl ?_
  refine x_seq ?_
  refine c_ret ?_
  refine post_ret rfl rfl ?_
  exact ⟨rfl, hb⟩

theorem all_c_one {w : World} {b : Nat} (hV : Bx w b [.bool false, .bool true, .bool false, .bool false, .bool false, .bool false, .bool false, .int .i64 3] 113) :
    CallsV Try.prog 113 #[(.pointer (some ⟨b, 0, none⟩))] w (fun r w' => Sl kInt (Rg 0 w.heap.size w'.heap.size) w' r [1] ∧ Bel w w') := by
  have hb := Bel.refl w
  have hVlt := hV.lt
  refine callsV_of Try.func113 (m := 16) Try.ntmps113 rfl rfl (l := [.pointer (some ⟨b, 0, none⟩), undef, undef, undef, undef, undef, undef, undef, undef, undef, undef, undef, undef, undef, undef, undef, undef]) rfl ?_
  refine c_seq ?_
  refine c_region ?_
  refine s_val (v := (.slice none 0 0)) rfl (r_assign rfl) (rfl : _ = [_, _, _, _, _, _, _, _, _, _, _, _, _, _, _, _, _]) ?_
  refine s_nil rfl ?_
  refine x_seq ?_
  refine c_seq ?_
  refine c_region ?_
  refine s_val (v := (.slice none 0 0)) rfl (r_assign rfl) (rfl : _ = [_, _, _, _, _, _, _, _, _, _, _, _, _, _, _, _, _]) ?_
  refine s_nil rfl ?_
  refine x_seq ?_
  refine c_seq ?_
  refine c_seq ?_
  refine c_region ?_
  refine s_val (v := (.int .i64 0)) rfl (r_move rfl) (rfl : _ = [_, _, _, _, _, _, _, _, _, _, _, _, _, _, _, _, _]) ?_
  refine s_nil rfl ?_
  refine x_seq ?_
  refine c_block ?_
  refine c_unroll 8 ?_
  refine c_seq ?_
  refine c_region ?_
  refine s_val (v := (.bool true)) rfl (r_lss (a := 0) (b := 7) rfl rfl) (rfl : _ = [_, _, _, _, _, _, _, _, _, _, _, _, _, _, _, _, _]) ?_
  refine s_nil rfl ?_
  refine x_seq ?_
  refine c_seq ?_
  refine c_cond rfl (fun _ => ?_) (fun hh => by cases hh)
  refine c_skip ?_
  refine x_seq ?_
  refine c_seq ?_
  refine c_block ?_
  refine c_seq ?_
  refine c_region ?_
  refine s_val (v := (.int .i64 0)) rfl (r_move rfl) (rfl : _ = [_, _, _, _, _, _, _, _, _, _, _, _, _, _, _, _, _]) ?_
  refine s_val (v := (.int .i64 0)) rfl (r_assign rfl) (rfl : _ = [_, _, _, _, _, _, _, _, _, _, _, _, _, _, _, _, _]) ?_
  refine s_nil rfl ?_
  refine x_seq ?_
  refine c_seq ?_
  refine c_region ?_
  refine s_val (v := (.pointer (some ⟨b, 0, none⟩))) rfl (r_move rfl) (rfl : _ = [_, _, _, _, _, _, _, _, _, _, _, _, _, _, _, _, _]) ?_
  refine s_val (v := (.int .i64 0)) rfl (r_move rfl) (rfl : _ = [_, _, _, _, _, _, _, _, _, _, _, _, _, _, _, _, _]) ?_
  refine s_call 127 _ _ (by kernel_rfl) rfl rfl (hasn_c0 hV) ?_
  rintro _ w1 ⟨rfl, hb2⟩
  refine norm (rfl : _ = [_, _, _, _, _, _, _, _, _, _, _, _, _, _, _, _, _]) ?_
  have hc3 := Chg.of_bel hb2
  have hs4 := hc3.size
  replace hb := hb.chg hc3 (by omega)
  replace hV := hV.chg hc3 (by omega)
  refine s_nil rfl ?_
  refine x_seq ?_
  refine c_cond rfl (fun hh => by cases hh) (fun _ => ?_)
  refine c_skip ?_
  refine x_block ?_
  refine x_seq ?_
  refine c_region ?_
  refine s_val (v := (.int .i64 1)) rfl (r_add (c := 1) rfl rfl (by decide)) (rfl : _ = [_, _, _, _, _, _, _, _, _, _, _, _, _, _, _, _, _]) ?_
  refine s_val (v := (.int .i64 1)) rfl (r_move rfl) (rfl : _ = [_, _, _, _, _, _, _, _, _, _, _, _, _, _, _, _, _]) ?_
  refine s_nil rfl ?_
  refine x_round ?_
  refine c_seq ?_
  refine c_region ?_
  refine s_val (v := (.bool true)) rfl (r_lss (a := 1) (b := 7) rfl rfl) (rfl : _ = [_, _, _, _, _, _, _, _, _, _, _, _, _, _, _, _, _]) ?_
  refine s_nil rfl ?_
  refine x_seq ?_
  refine c_seq ?_
  refine c_cond rfl (fun _ => ?_) (fun hh => by cases hh)
  refine c_skip ?_
  refine x_seq ?_
  refine c_seq ?_
  refine c_block ?_
  refine c_seq ?_
  refine c_region ?_
  refine s_val (v := (.int .i64 1)) rfl (r_move rfl) (rfl : _ = [_, _, _, _, _, _, _, _, _, _, _, _, _, _, _, _, _]) ?_
  refine s_val (v := (.int .i64 1)) rfl (r_assign rfl) (rfl : _ = [_, _, _, _, _, _, _, _, _, _, _, _, _, _, _, _, _]) ?_
  refine s_nil rfl ?_
  refine x_seq ?_
  refine c_seq ?_
  refine c_region ?_
  refine s_val (v := (.pointer (some ⟨b, 0, none⟩))) rfl (r_move rfl) (rfl : _ = [_, _, _, _, _, _, _, _, _, _, _, _, _, _, _, _, _]) ?_
  refine s_val (v := (.int .i64 1)) rfl (r_move rfl) (rfl : _ = [_, _, _, _, _, _, _, _, _, _, _, _, _, _, _, _, _]) ?_
  refine s_call 127 _ _ (by kernel_rfl) rfl rfl (hasn_c1 hV) ?_
  rintro _ w5 ⟨rfl, hb6⟩
  refine norm (rfl : _ = [_, _, _, _, _, _, _, _, _, _, _, _, _, _, _, _, _]) ?_
  have hc7 := Chg.of_bel hb6
  have hs8 := hc7.size
  replace hb := hb.chg hc7 (by omega)
  replace hV := hV.chg hc7 (by omega)
  refine s_nil rfl ?_
  refine x_seq ?_
  refine c_cond rfl (fun _ => ?_) (fun hh => by cases hh)
  refine c_region ?_
  refine s_val (v := (.slice none 0 0)) rfl (r_move rfl) (rfl : _ = [_, _, _, _, _, _, _, _, _, _, _, _, _, _, _, _, _]) ?_
  refine s_val (v := (.int .i64 1)) rfl (r_move rfl) (rfl : _ = [_, _, _, _, _, _, _, _, _, _, _, _, _, _, _, _, _]) ?_
  refine s_buildSlice (cs := [.int .i64 1]) (e := 3) 23 1 _ rfl rfl (by kernel_rfl) ?_
  intro a9 w10 he11 hB12 hc13 hz14
  refine norm (rfl : _ = [_, _, _, _, _, _, _, _, _, _, _, _, _, _, _, _, _]) ?_
  have hs15 := hc13.size
  replace hb := hb.chg hc13 (by omega)
  replace hV := hV.chg hc13 (by omega)
  refine s_appendX kInt (z := (.int .i64 0)) (bytes := 8) (ys := [1]) (ok2 := fun _ => False) Try.underlying23 (by kernel_rfl) rfl (by decide) (by decide) (by decide) rfl (OwnX.nil kInt 3 (a := 0) (n := w10.heap.size) (w := w10) (by omega) (Nat.le_refl _)) rfl (flat_one rfl) (had_bx hB12) (fun _ hb _ => hb.elim) (by simp [lim]) ?_
  intro v16 w17 hO18 hc19
  refine norm (rfl : _ = [_, _, _, _, _, _, _, _, _, _, _, _, _, _, _, _, _]) ?_
  have hs20 := hc19.size
  replace hb := hb.chg hc19 (by omega)
  replace hV := hV.chg hc19 (by omega)
  refine s_val (v := v16) rfl (r_assign rfl) (rfl : _ = [_, _, _, _, _, _, _, _, _, _, _, _, _, _, _, _, _]) ?_
  refine s_nil rfl ?_
  refine x_block ?_
  refine x_seq ?_
  refine c_region ?_
  refine s_val (v := (.int .i64 2)) rfl (r_add (c := 2) rfl rfl (by decide)) (rfl : _ = [_, _, _, _, _, _, _, _, _, _, _, _, _, _, _, _, _]) ?_
  refine s_val (v := (.int .i64 2)) rfl (r_move rfl) (rfl : _ = [_, _, _, _, _, _, _, _, _, _, _, _, _, _, _, _, _]) ?_
  refine s_nil rfl ?_
  refine x_round ?_
  refine c_seq ?_
  refine c_region ?_
  refine s_val (v := (.bool true)) rfl (r_lss (a := 2) (b := 7) rfl rfl) (rfl : _ = [_, _, _, _, _, _, _, _, _, _, _, _, _, _, _, _, _]) ?_
  refine s_nil rfl ?_
  refine x_seq ?_
  refine c_seq ?_
  refine c_cond rfl (fun _ => ?_) (fun hh => by cases hh)
  refine c_skip ?_
  refine x_seq ?_
  refine c_seq ?_
  refine c_block ?_
  refine c_seq ?_
  refine c_region ?_
  refine s_val (v := (.int .i64 2)) rfl (r_move rfl) (rfl : _ = [_, _, _, _, _, _, _, _, _, _, _, _, _, _, _, _, _]) ?_
  refine s_val (v := (.int .i64 2)) rfl (r_assign rfl) (rfl : _ = [_, _, _, _, _, _, _, _, _, _, _, _, _, _, _, _, _]) ?_
  refine s_nil rfl ?_
  refine x_seq ?_
  refine c_seq ?_
  refine c_region ?_
  refine s_val (v := (.pointer (some ⟨b, 0, none⟩))) rfl (r_move rfl) (rfl : _ = [_, _, _, _, _, _, _, _, _, _, _, _, _, _, _, _, _]) ?_
  refine s_val (v := (.int .i64 2)) rfl (r_move rfl) (rfl : _ = [_, _, _, _, _, _, _, _, _, _, _, _, _, _, _, _, _]) ?_
  refine s_call 127 _ _ (by kernel_rfl) rfl rfl (hasn_c2 hV) ?_
  rintro _ w21 ⟨rfl, hb22⟩
  refine norm (rfl : _ = [_, _, _, _, _, _, _, _, _, _, _, _, _, _, _, _, _]) ?_
  have hc23 := Chg.of_bel hb22
  have hs24 := hc23.size
  replace hb := hb.chg hc23 (by omega)
  replace hV := hV.chg hc23 (by omega)
  replace hO18 := hO18.chg hc23 (by omega)
  refine s_nil rfl ?_
  refine x_seq ?_
  refine c_cond rfl (fun hh => by cases hh) (fun _ => ?_)
  refine c_skip ?_
  refine x_block ?_
  refine x_seq ?_
  refine c_region ?_
  refine s_val (v := (.int .i64 3)) rfl (r_add (c := 3) rfl rfl (by decide)) (rfl : _ = [_, _, _, _, _, _, _, _, _, _, _, _, _, _, _, _, _]) ?_
  refine s_val (v := (.int .i64 3)) rfl (r_move rfl) (rfl : _ = [_, _, _, _, _, _, _, _, _, _, _, _, _, _, _, _, _]) ?_
  refine s_nil rfl ?_
  refine x_round ?_
  refine c_seq ?_
  refine c_region ?_
  refine s_val (v := (.bool true)) rfl (r_lss (a := 3) (b := 7) rfl rfl) (rfl : _ = [_, _, _, _, _, _, _, _, _, _, _, _, _, _, _, _, _]) ?_
  refine s_nil rfl ?_
  refine x_seq ?_
  refine c_seq ?_
  refine c_cond rfl (fun _ => ?_) (fun hh => by cases hh)
  refine c_skip ?_
  refine x_seq ?_
  refine c_seq ?_
  refine c_block ?_
  refine c_seq ?_
  refine c_region ?_
  refine s_val (v := (.int .i64 3)) rfl (r_move rfl) (rfl : _ = [_, _, _, _, _, _, _, _, _, _, _, _, _, _, _, _, _]) ?_
  refine s_val (v := (.int .i64 3)) rfl (r_assign rfl) (rfl : _ = [_, _, _, _, _, _, _, _, _, _, _, _, _, _, _, _, _]) ?_
  refine s_nil rfl ?_
  refine x_seq ?_
  refine c_seq ?_
  refine c_region ?_
  refine s_val (v := (.pointer (some ⟨b, 0, none⟩))) rfl (r_move rfl) (rfl : _ = [_, _, _, _, _, _, _, _, _, _, _, _, _, _, _, _, _]) ?_
  refine s_val (v := (.int .i64 3)) rfl (r_move rfl) (rfl : _ = [_, _, _, _, _, _, _, _, _, _, _, _, _, _, _, _, _]) ?_
  refine s_call 127 _ _ (by kernel_rfl) rfl rfl (hasn_c3 hV) ?_
  rintro _ w25 ⟨rfl, hb26⟩
  refine norm (rfl : _ = [_, _, _, _, _, _, _, _, _, _, _, _, _, _, _, _, _]) ?_
  have hc27 := Chg.of_bel hb26
  have hs28 := hc27.size
  replace hb := hb.chg hc27 (by omega)
  replace hV := hV.chg hc27 (by omega)
  replace hO18 := hO18.chg hc27 (by omega)
  refine s_nil rfl ?_
  refine x_seq ?_
  refine c_cond rfl (fun hh => by cases hh) (fun _ => ?_)
  refine c_skip ?_
  refine x_block ?_
  refine x_seq ?_
  refine c_region ?_
  refine s_val (v := (.int .i64 4)) rfl (r_add (c := 4) rfl rfl (by decide)) (rfl : _ = [_, _, _, _, _, _, _, _, _, _, _, _, _, _, _, _, _]) ?_
  refine s_val (v := (.int .i64 4)) rfl (r_move rfl) (rfl : _ = [_, _, _, _, _, _, _, _, _, _, _, _, _, _, _, _, _]) ?_
  refine s_nil rfl ?_
  refine x_round ?_
  refine c_seq ?_
  refine c_region ?_
  refine s_val (v := (.bool true)) rfl (r_lss (a := 4) (b := 7) rfl rfl) (rfl : _ = [_, _, _, _, _, _, _, _, _, _, _, _, _, _, _, _, _]) ?_
  refine s_nil rfl ?_
  refine x_seq ?_
  refine c_seq ?_
  refine c_cond rfl (fun _ => ?_) (fun hh => by cases hh)
  refine c_skip ?_
  refine x_seq ?_
  refine c_seq ?_
  refine c_block ?_
  refine c_seq ?_
  refine c_region ?_
  refine s_val (v := (.int .i64 4)) rfl (r_move rfl) (rfl : _ = [_, _, _, _, _, _, _, _, _, _, _, _, _, _, _, _, _]) ?_
  refine s_val (v := (.int .i64 4)) rfl (r_assign rfl) (rfl : _ = [_, _, _, _, _, _, _, _, _, _, _, _, _, _, _, _, _]) ?_
  refine s_nil rfl ?_
  refine x_seq ?_
  refine c_seq ?_
  refine c_region ?_
  refine s_val (v := (.pointer (some ⟨b, 0, none⟩))) rfl (r_move rfl) (rfl : _ = [_, _, _, _, _, _, _, _, _, _, _, _, _, _, _, _, _]) ?_
  refine s_val (v := (.int .i64 4)) rfl (r_move rfl) (rfl : _ = [_, _, _, _, _, _, _, _, _, _, _, _, _, _, _, _, _]) ?_
  refine s_call 127 _ _ (by kernel_rfl) rfl rfl (hasn_c4 hV) ?_
  rintro _ w29 ⟨rfl, hb30⟩
  refine norm (rfl : _ = [_, _, _, _, _, _, _, _, _, _, _, _, _, _, _, _, _]) ?_
  have hc31 := Chg.of_bel hb30
  have hs32 := hc31.size
  replace hb := hb.chg hc31 (by omega)
  replace hV := hV.chg hc31 (by omega)
  replace hO18 := hO18.chg hc31 (by omega)
  refine s_nil rfl ?_
  refine x_seq ?_
  refine c_cond rfl (fun hh => by cases hh) (fun _ => ?_)
  refine c_skip ?_
  refine x_block ?_
  refine x_seq ?_
  refine c_region ?_
  refine s_val (v := (.int .i64 5)) rfl (r_add (c := 5) rfl rfl (by decide)) (rfl : _ = [_, _, _, _, _, _, _, _, _, _, _, _, _, _, _, _, _]) ?_
  refine s_val (v := (.int .i64 5)) rfl (r_move rfl) (rfl : _ = [_, _, _, _, _, _, _, _, _, _, _, _, _, _, _, _, _]) ?_
  refine s_nil rfl ?_
  refine x_round ?_
  refine c_seq ?_
  refine c_region ?_
  refine s_val (v := (.bool true)) rfl (r_lss (a := 5) (b := 7) rfl rfl) (rfl : _ = [_, _, _, _, _, _, _, _, _, _, _, _, _, _, _, _, _]) ?_
  refine s_nil rfl ?_
  refine x_seq ?_
  refine c_seq ?_
  refine c_cond rfl (fun _ => ?_) (fun hh => by cases hh)
  refine c_skip ?_
  refine x_seq ?_
  refine c_seq ?_
  refine c_block ?_
  refine c_seq ?_
  refine c_region ?_
  refine s_val (v := (.int .i64 5)) rfl (r_move rfl) (rfl : _ = [_, _, _, _, _, _, _, _, _, _, _, _, _, _, _, _, _]) ?_
  refine s_val (v := (.int .i64 5)) rfl (r_assign rfl) (rfl : _ = [_, _, _, _, _, _, _, _, _, _, _, _, _, _, _, _, _]) ?_
  refine s_nil rfl ?_
  refine x_seq ?_
  refine c_seq ?_
  refine c_region ?_
  refine s_val (v := (.pointer (some ⟨b, 0, none⟩))) rfl (r_move rfl) (rfl : _ = [_, _, _, _, _, _, _, _, _, _, _, _, _, _, _, _, _]) ?_
  refine s_val (v := (.int .i64 5)) rfl (r_move rfl) (rfl : _ = [_, _, _, _, _, _, _, _, _, _, _, _, _, _, _, _, _]) ?_
  refine s_call 127 _ _ (by kernel_rfl) rfl rfl (hasn_c5 hV) ?_
  rintro _ w33 ⟨rfl, hb34⟩
  refine norm (rfl : _ = [_, _, _, _, _, _, _, _, _, _, _, _, _, _, _, _, _]) ?_
  have hc35 := Chg.of_bel hb34
  have hs36 := hc35.size
  replace hb := hb.chg hc35 (by omega)
  replace hV := hV.chg hc35 (by omega)
  replace hO18 := hO18.chg hc35 (by omega)
  refine s_nil rfl ?_
  refine x_seq ?_
  refine c_cond rfl (fun hh => by cases hh) (fun _ => ?_)
  refine c_skip ?_
  refine x_block ?_
  refine x_seq ?_
  refine c_region ?_
  refine s_val (v := (.int .i64 6)) rfl (r_add (c := 6) rfl rfl (by decide)) (rfl : _ = [_, _, _, _, _, _, _, _, _, _, _, _, _, _, _, _, _]) ?_
  refine s_val (v := (.int .i64 6)) rfl (r_move rfl) (rfl : _ = [_, _, _, _, _, _, _, _, _, _, _, _, _, _, _, _, _]) ?_
  refine s_nil rfl ?_
  refine x_round ?_
  refine c_seq ?_
  refine c_region ?_
  refine s_val (v := (.bool true)) rfl (r_lss (a := 6) (b := 7) rfl rfl) (rfl : _ = [_, _, _, _, _, _, _, _, _, _, _, _, _, _, _, _, _]) ?_
  refine s_nil rfl ?_
  refine x_seq ?_
  refine c_seq ?_
  refine c_cond rfl (fun _ => ?_) (fun hh => by cases hh)
  refine c_skip ?_
  refine x_seq ?_
  refine c_seq ?_
  refine c_block ?_
  refine c_seq ?_
  refine c_region ?_
  refine s_val (v := (.int .i64 6)) rfl (r_move rfl) (rfl : _ = [_, _, _, _, _, _, _, _, _, _, _, _, _, _, _, _, _]) ?_
  refine s_val (v := (.int .i64 6)) rfl (r_assign rfl) (rfl : _ = [_, _, _, _, _, _, _, _, _, _, _, _, _, _, _, _, _]) ?_
  refine s_nil rfl ?_
  refine x_seq ?_
  refine c_seq ?_
  refine c_region ?_
  refine s_val (v := (.pointer (some ⟨b, 0, none⟩))) rfl (r_move rfl) (rfl : _ = [_, _, _, _, _, _, _, _, _, _, _, _, _, _, _, _, _]) ?_
  refine s_val (v := (.int .i64 6)) rfl (r_move rfl) (rfl : _ = [_, _, _, _, _, _, _, _, _, _, _, _, _, _, _, _, _]) ?_
  refine s_call 127 _ _ (by kernel_rfl) rfl rfl (hasn_c6 hV) ?_
  rintro _ w37 ⟨rfl, hb38⟩
  refine norm (rfl : _ = [_, _, _, _, _, _, _, _, _, _, _, _, _, _, _, _, _]) ?_
  have hc39 := Chg.of_bel hb38
  have hs40 := hc39.size
  replace hb := hb.chg hc39 (by omega)
  replace hV := hV.chg hc39 (by omega)
  replace hO18 := hO18.chg hc39 (by omega)
  refine s_nil rfl ?_
  refine x_seq ?_
  refine c_cond rfl (fun hh => by cases hh) (fun _ => ?_)
  refine c_skip ?_
  refine x_block ?_
  refine x_seq ?_
  refine c_region ?_
  refine s_val (v := (.int .i64 7)) rfl (r_add (c := 7) rfl rfl (by decide)) (rfl : _ = [_, _, _, _, _, _, _, _, _, _, _, _, _, _, _, _, _]) ?_
  refine s_val (v := (.int .i64 7)) rfl (r_move rfl) (rfl : _ = [_, _, _, _, _, _, _, _, _, _, _, _, _, _, _, _, _]) ?_
  refine s_nil rfl ?_
  refine x_round ?_
  refine c_seq ?_
  refine c_region ?_
  refine s_val (v := (.bool false)) rfl (r_lss (a := 7) (b := 7) rfl rfl) (rfl : _ = [_, _, _, _, _, _, _, _, _, _, _, _, _, _, _, _, _]) ?_
  refine s_nil rfl ?_
  refine x_seq ?_
  refine c_seq ?_
  refine c_cond rfl (fun hh => by cases hh) (fun _ => ?_)
  refine c_exit ?_
  refine x_then_exit ?_
  refine x_then_exit ?_
  refine x_block_same ?_
  refine x_seq ?_
  refine c_seq ?_
  refine c_region ?_
  refine s_val (v := v16) rfl (r_move rfl) (rfl : _ = [_, _, _, _, _, _, _, _, _, _, _, _, _, _, _, _, _]) ?_
  refine s_val (v := v16) rfl (r_assign rfl) (rfl : _ = [_, _, _, _, _, _, _, _, _, _, _, _, _, _, _, _, _]) ?_
  refine s_nil rfl ?_
  refine x_seq ?_
  refine c_ret ?_
  refine post_ret rfl rfl ?_
  exact ⟨hO18.sl.rg (by decide) (fun b _ hh => by omega), hb⟩

theorem count_c_one {w : World} {b : Nat} (hV : Bx w b [.bool false, .bool true, .bool false, .bool false, .bool false, .bool false, .bool false, .int .i64 3] 113) :
    CallsV Try.prog 82 #[(.pointer (some ⟨b, 0, none⟩))] w (fun r w' => r = .int .i64 1 ∧ Bel w w') := by
  have hb := Bel.refl w
  have hVlt := hV.lt
  refine callsV_of Try.func82 (m := 15) Try.ntmps82 rfl rfl (l := [.pointer (some ⟨b, 0, none⟩), undef, undef, undef, undef, undef, undef, undef, undef, undef, undef, undef, undef, undef, undef, undef]) rfl ?_
  refine c_seq ?_
  refine c_region ?_
  refine s_val (v := (.int .i64 0)) rfl (r_assign rfl) (rfl : _ = [_, _, _, _, _, _, _, _, _, _, _, _, _, _, _, _]) ?_
  refine s_nil rfl ?_
  refine x_seq ?_
  refine c_seq ?_
  refine c_seq ?_
  refine c_region ?_
  refine s_val (v := (.pointer (some ⟨b, 0, none⟩))) rfl (r_move rfl) (rfl : _ = [_, _, _, _, _, _, _, _, _, _, _, _, _, _, _, _]) ?_
  refine s_val (v := (.bool false)) rfl (r_eqp0 Try.underlying79 rfl) (rfl : _ = [_, _, _, _, _, _, _, _, _, _, _, _, _, _, _, _]) ?_
  refine s_val (v := (.bool false)) rfl (r_move rfl) (rfl : _ = [_, _, _, _, _, _, _, _, _, _, _, _, _, _, _, _]) ?_
  refine s_val (v := (.pointer (some ⟨b, 0, none⟩))) (wan_t (dj := 5) rfl rfl) (r_move rfl) (rfl : _ = [_, _, _, _, _, _, _, _, _, _, _, _, _, _, _, _]) ?_
  refine s_val (v := (.pointer (some ⟨b, 0, none⟩))) (wan_t (dj := 5) rfl rfl) (r_nilck rfl) (rfl : _ = [_, _, _, _, _, _, _, _, _, _, _, _, _, _, _, _]) ?_
  refine s_val (v := (.pointer (some ⟨b, 0, none⟩))) (wan_t (dj := 5) rfl rfl) (r_field (k := 0) (o := 0) (by kernel_rfl) rfl) (rfl : _ = [_, _, _, _, _, _, _, _, _, _, _, _, _, _, _, _]) ?_
  refine s_val (v := (.agg #[.bool false, .bool true, .bool false, .bool false, .bool false, .bool false, .bool false])) (wan_t (dj := 5) rfl rfl) (r_load rfl (Ld.row (cs := [.bool false, .bool true, .bool false, .bool false, .bool false, .bool false, .bool false]) Try.underlying111 rfl (by kernel_rfl) (hV.range 0 rfl))) (rfl : _ = [_, _, _, _, _, _, _, _, _, _, _, _, _, _, _, _]) ?_
  refine s_val (wan_t (dj := 5) rfl rfl) (r_build (v := (.agg #[.bool false, .bool false, .bool false, .bool false, .bool false, .bool false, .bool false])) rfl (by kernel_rfl)) (rfl : _ = [_, _, _, _, _, _, _, _, _, _, _, _, _, _, _, _]) ?_
  have heq : (Op.equalIn 10000 111 (.agg #[.bool false, .bool true, .bool false, .bool false, .bool false, .bool false, .bool false]) (.agg #[.bool false, .bool false, .bool false, .bool false, .bool false, .bool false, .bool false])).run Try.prog w = .ok false w := by kernel_rfl
  refine s_val (v := (.bool false)) (wan_t (dj := 5) rfl rfl) (r_eq_agg (by kernel_rfl) rfl rfl heq) (rfl : _ = [_, _, _, _, _, _, _, _, _, _, _, _, _, _, _, _]) ?_
  refine s_val (v := (.bool false)) rfl (r_pick rfl rfl) (rfl : _ = [_, _, _, _, _, _, _, _, _, _, _, _, _, _, _, _]) ?_
  refine s_nil rfl ?_
  refine x_seq ?_
  refine c_cond rfl (fun hh => by cases hh) (fun _ => ?_)
  refine c_skip ?_
  refine x_seq ?_
  refine c_seq ?_
  refine c_region ?_
  refine s_val (v := (.pointer (some ⟨b, 0, none⟩))) rfl (r_move rfl) (rfl : _ = [_, _, _, _, _, _, _, _, _, _, _, _, _, _, _, _]) ?_
  refine s_call 113 _ _ (by kernel_rfl) rfl rfl (all_c_one hV) ?_
  rintro v1 w2 ⟨hS3, hb4⟩
  refine norm (rfl : _ = [_, _, _, _, _, _, _, _, _, _, _, _, _, _, _, _]) ?_
  have hc5 := Chg.of_bel hb4
  have hs6 := hc5.size
  replace hb := hb.chg hc5 (by omega)
  replace hV := hV.chg hc5 (by omega)
  refine s_val (v := (.int .i64 ([1].length : Int))) rfl (hS3.len Try.underlying23 rfl _) (rfl : _ = [_, _, _, _, _, _, _, _, _, _, _, _, _, _, _, _]) ?_
  refine s_val (v := (.int .i64 ([1].length : Int))) rfl (r_assign rfl) (rfl : _ = [_, _, _, _, _, _, _, _, _, _, _, _, _, _, _, _]) ?_
  refine s_nil rfl ?_
  refine x_seq ?_
  refine c_ret ?_
  refine post_ret rfl rfl ?_
  exact ⟨rfl, hb⟩

theorem quorum_c3 {w : World} :
    CallsV Try.prog 51 #[(.int .i64 3)] w (fun r w' => r = .int .i64 2 ∧ Bel w w') := by
  have hb := Bel.refl w
  refine callsV_of Try.func51 (m := 11) Try.ntmps51 rfl rfl (l := [.int .i64 3, undef, undef, undef, undef, undef, undef, undef, undef, undef, undef, undef]) rfl ?_
  refine c_seq ?_
  refine c_region ?_
  refine s_val (v := (.int .i64 0)) rfl (r_assign rfl) (rfl : _ = [_, _, _, _, _, _, _, _, _, _, _, _]) ?_
  refine s_nil rfl ?_
  refine x_seq ?_
  refine c_seq ?_
  refine c_seq ?_
  refine c_region ?_
  refine s_val (v := (.int .i64 3)) rfl (r_move rfl) (rfl : _ = [_, _, _, _, _, _, _, _, _, _, _, _]) ?_
  refine s_val (v := (.bool false)) rfl (r_lss (a := 3) (b := 1) rfl rfl) (rfl : _ = [_, _, _, _, _, _, _, _, _, _, _, _]) ?_
  refine s_val (v := (.bool false)) rfl (r_move rfl) (rfl : _ = [_, _, _, _, _, _, _, _, _, _, _, _]) ?_
  refine s_val (v := (.int .i64 3)) (wan_t (dj := 5) rfl rfl) (r_move rfl) (rfl : _ = [_, _, _, _, _, _, _, _, _, _, _, _]) ?_
  refine s_val (v := (.bool false)) (wan_t (dj := 5) rfl rfl) (r_gtr (a := 3) (b := 7) rfl rfl) (rfl : _ = [_, _, _, _, _, _, _, _, _, _, _, _]) ?_
  refine s_val (v := (.bool false)) rfl (r_pick rfl rfl) (rfl : _ = [_, _, _, _, _, _, _, _, _, _, _, _]) ?_
  refine s_nil rfl ?_
  refine x_seq ?_
  refine c_cond rfl (fun hh => by cases hh) (fun _ => ?_)
  refine c_skip ?_
  refine x_seq ?_
  refine c_seq ?_
  refine c_region ?_
  refine s_val (v := (.int .i64 3)) rfl (r_move rfl) (rfl : _ = [_, _, _, _, _, _, _, _, _, _, _, _]) ?_
  refine s_val (v := (.int .i64 1)) rfl (r_quo (c := 1) rfl rfl (by decide) (by decide)) (rfl : _ = [_, _, _, _, _, _, _, _, _, _, _, _]) ?_
  refine s_val (v := (.int .i64 2)) rfl (r_add (c := 2) rfl rfl (by decide)) (rfl : _ = [_, _, _, _, _, _, _, _, _, _, _, _]) ?_
  refine s_val (v := (.int .i64 2)) rfl (r_assign rfl) (rfl : _ = [_, _, _, _, _, _, _, _, _, _, _, _]) ?_
  refine s_nil rfl ?_
  refine x_seq ?_
  refine c_ret ?_
  refine post_ret rfl rfl ?_
  exact ⟨rfl, hb⟩

theorem quorum_c5 {w : World} :
    CallsV Try.prog 51 #[(.int .i64 5)] w (fun r w' => r = .int .i64 3 ∧ Bel w w') := by
  have hb := Bel.refl w
  refine callsV_of Try.func51 (m := 11) Try.ntmps51 rfl rfl (l := [.int .i64 5, undef, undef, undef, undef, undef, undef, undef, undef, undef, undef, undef]) rfl ?_
  refine c_seq ?_
  refine c_region ?_
  refine s_val (v := (.int .i64 0)) rfl (r_assign rfl) (rfl : _ = [_, _, _, _, _, _, _, _, _, _, _, _]) ?_
  refine s_nil rfl ?_
  refine x_seq ?_
  refine c_seq ?_
  refine c_seq ?_
  refine c_region ?_
  refine s_val (v := (.int .i64 5)) rfl (r_move rfl) (rfl : _ = [_, _, _, _, _, _, _, _, _, _, _, _]) ?_
  refine s_val (v := (.bool false)) rfl (r_lss (a := 5) (b := 1) rfl rfl) (rfl : _ = [_, _, _, _, _, _, _, _, _, _, _, _]) ?_
  refine s_val (v := (.bool false)) rfl (r_move rfl) (rfl : _ = [_, _, _, _, _, _, _, _, _, _, _, _]) ?_
  refine s_val (v := (.int .i64 5)) (wan_t (dj := 5) rfl rfl) (r_move rfl) (rfl : _ = [_, _, _, _, _, _, _, _, _, _, _, _]) ?_
  refine s_val (v := (.bool false)) (wan_t (dj := 5) rfl rfl) (r_gtr (a := 5) (b := 7) rfl rfl) (rfl : _ = [_, _, _, _, _, _, _, _, _, _, _, _]) ?_
  refine s_val (v := (.bool false)) rfl (r_pick rfl rfl) (rfl : _ = [_, _, _, _, _, _, _, _, _, _, _, _]) ?_
  refine s_nil rfl ?_
  refine x_seq ?_
  refine c_cond rfl (fun hh => by cases hh) (fun _ => ?_)
  refine c_skip ?_
  refine x_seq ?_
  refine c_seq ?_
  refine c_region ?_
  refine s_val (v := (.int .i64 5)) rfl (r_move rfl) (rfl : _ = [_, _, _, _, _, _, _, _, _, _, _, _]) ?_
  refine s_val (v := (.int .i64 2)) rfl (r_quo (c := 2) rfl rfl (by decide) (by decide)) (rfl : _ = [_, _, _, _, _, _, _, _, _, _, _, _]) ?_
  refine s_val (v := (.int .i64 3)) rfl (r_add (c := 3) rfl rfl (by decide)) (rfl : _ = [_, _, _, _, _, _, _, _, _, _, _, _]) ?_
  refine s_val (v := (.int .i64 3)) rfl (r_assign rfl) (rfl : _ = [_, _, _, _, _, _, _, _, _, _, _, _]) ?_
  refine s_nil rfl ?_
  refine x_seq ?_
  refine c_ret ?_
  refine post_ret rfl rfl ?_
  exact ⟨rfl, hb⟩

theorem enough_c_one {w : World} {b : Nat} (hV : Bx w b [.bool false, .bool true, .bool false, .bool false, .bool false, .bool false, .bool false, .int .i64 3] 113) :
    CallsV Try.prog 50 #[(.pointer (some ⟨b, 0, none⟩))] w (fun r w' => r = .bool false ∧ Bel w w') := by
  have hb := Bel.refl w
  have hVlt := hV.lt
  refine callsV_of Try.func50 (m := 21) Try.ntmps50 rfl rfl (l := [.pointer (some ⟨b, 0, none⟩), undef, undef, undef, undef, undef, undef, undef, undef, undef, undef, undef, undef, undef, undef, undef, undef, undef, undef, undef, undef, undef]) rfl ?_
  refine c_seq ?_
  refine c_region ?_
  refine s_val (v := (.bool false)) rfl (r_assign rfl) (rfl : _ = [_, _, _, _, _, _, _, _, _, _, _, _, _, _, _, _, _, _, _, _, _, _]) ?_
  refine s_nil rfl ?_
  refine x_seq ?_
  refine c_seq ?_
  refine c_draw (by kernel_rfl) (by kernel_rfl) ?_
  refine q_val (v := (.pointer (some ⟨b, 0, none⟩))) rfl (fun w' hC => r_move rfl) (rfl : _ = [_, _, _, _, _, _, _, _, _, _, _, _, _, _, _, _, _, _, _, _, _, _]) ?_
  refine q_val (v := (.bool true)) rfl (fun w' hC => r_nep0 Try.underlying79 rfl) (rfl : _ = [_, _, _, _, _, _, _, _, _, _, _, _, _, _, _, _, _, _, _, _, _, _]) ?_
  refine q_val (v := (.bool true)) rfl (fun w' hC => r_move rfl) (rfl : _ = [_, _, _, _, _, _, _, _, _, _, _, _, _, _, _, _, _, _, _, _, _, _]) ?_
  refine q_val (v := (.pointer (some ⟨b, 0, none⟩))) (wan_t (dj := 5) rfl rfl) (fun w' hC => r_move rfl) (rfl : _ = [_, _, _, _, _, _, _, _, _, _, _, _, _, _, _, _, _, _, _, _, _, _]) ?_
  refine q_val (v := (.pointer (some ⟨b, 0, none⟩))) (wan_t (dj := 5) rfl rfl) (fun w' hC => r_nilck rfl) (rfl : _ = [_, _, _, _, _, _, _, _, _, _, _, _, _, _, _, _, _, _, _, _, _, _]) ?_
  refine q_val (v := (.pointer (some ⟨b, 7, none⟩))) (wan_t (dj := 5) rfl rfl) (fun w' hC => r_field (k := 7) (o := 0) (by kernel_rfl) rfl) (rfl : _ = [_, _, _, _, _, _, _, _, _, _, _, _, _, _, _, _, _, _, _, _, _, _]) ?_
  refine q_val (v := (.int .i64 3)) (wan_t (dj := 5) rfl rfl) (fun w' hC => r_load rfl (Ld.one Try.underlying3 rfl ((hV.below hC).cell (i := 7) rfl))) (rfl : _ = [_, _, _, _, _, _, _, _, _, _, _, _, _, _, _, _, _, _, _, _, _, _]) ?_
  refine q_val (v := (.bool true)) (wan_t (dj := 5) rfl rfl) (fun w' hC => r_gtr (a := 3) (b := 0) rfl rfl) (rfl : _ = [_, _, _, _, _, _, _, _, _, _, _, _, _, _, _, _, _, _, _, _, _, _]) ?_
  refine q_val (v := (.bool true)) rfl (fun w' hC => r_pick rfl rfl) (rfl : _ = [_, _, _, _, _, _, _, _, _, _, _, _, _, _, _, _, _, _, _, _, _, _]) ?_
  refine q_val (v := (.bool true)) rfl (fun w' hC => r_move rfl) (rfl : _ = [_, _, _, _, _, _, _, _, _, _, _, _, _, _, _, _, _, _, _, _, _, _]) ?_
  refine q_val (v := (.pointer (some ⟨b, 0, none⟩))) (wan_t (dj := 12) rfl rfl) (fun w' hC => r_move rfl) (rfl : _ = [_, _, _, _, _, _, _, _, _, _, _, _, _, _, _, _, _, _, _, _, _, _]) ?_
  refine q_call (by kernel_rfl) (wan_t (dj := 12) rfl rfl) rfl (fun w' hC => count_c_one (hV.below hC)) ?_
  refine q_norm (rfl : _ = [_, _, _, _, _, _, _, _, _, _, _, _, _, _, _, _, _, _, _, _, _, _]) ?_
  refine q_val (v := (.pointer (some ⟨b, 0, none⟩))) (wan_t (dj := 12) rfl rfl) (fun w' hC => r_move rfl) (rfl : _ = [_, _, _, _, _, _, _, _, _, _, _, _, _, _, _, _, _, _, _, _, _, _]) ?_
  refine q_val (v := (.pointer (some ⟨b, 0, none⟩))) (wan_t (dj := 12) rfl rfl) (fun w' hC => r_nilck rfl) (rfl : _ = [_, _, _, _, _, _, _, _, _, _, _, _, _, _, _, _, _, _, _, _, _, _]) ?_
  refine q_val (v := (.pointer (some ⟨b, 7, none⟩))) (wan_t (dj := 12) rfl rfl) (fun w' hC => r_field (k := 7) (o := 0) (by kernel_rfl) rfl) (rfl : _ = [_, _, _, _, _, _, _, _, _, _, _, _, _, _, _, _, _, _, _, _, _, _]) ?_
  refine q_val (v := (.int .i64 3)) (wan_t (dj := 12) rfl rfl) (fun w' hC => r_load rfl (Ld.one Try.underlying3 rfl ((hV.below hC).cell (i := 7) rfl))) (rfl : _ = [_, _, _, _, _, _, _, _, _, _, _, _, _, _, _, _, _, _, _, _, _, _]) ?_
  refine q_call (by kernel_rfl) (wan_t (dj := 12) rfl rfl) rfl (fun w' hC => quorum_c3) ?_
  refine q_norm (rfl : _ = [_, _, _, _, _, _, _, _, _, _, _, _, _, _, _, _, _, _, _, _, _, _]) ?_
  refine q_val (v := (.bool false)) (wan_t (dj := 12) rfl rfl) (fun w' hC => r_geq (a := 1) (b := 2) rfl rfl) (rfl : _ = [_, _, _, _, _, _, _, _, _, _, _, _, _, _, _, _, _, _, _, _, _, _]) ?_
  refine q_val (v := (.bool false)) rfl (fun w' hC => r_pick rfl rfl) (rfl : _ = [_, _, _, _, _, _, _, _, _, _, _, _, _, _, _, _, _, _, _, _, _, _]) ?_
  refine q_val (v := (.bool false)) rfl (fun w' hC => r_assign rfl) (rfl : _ = [_, _, _, _, _, _, _, _, _, _, _, _, _, _, _, _, _, _, _, _, _, _]) ?_
  refine q_nil rfl ?_
  intro w1 hq2
  have hc3 := Chg.of_bel hq2
  have hs4 := hc3.size
  replace hb := hb.chg hc3 (by omega)
  replace hV := hV.chg hc3 (by omega)
  refine x_seq ?_
  refine c_ret ?_
  refine post_ret rfl rfl ?_
  exact ⟨rfl, hb⟩

theorem all_c_two {w : World} {b : Nat} (hV : Bx w b [.bool true, .bool true, .bool false, .bool false, .bool false, .bool false, .bool false, .int .i64 3] 113) :
    CallsV Try.prog 113 #[(.pointer (some ⟨b, 0, none⟩))] w (fun r w' => Sl kInt (Rg 0 w.heap.size w'.heap.size) w' r [0, 1] ∧ Bel w w') := by
  have hb := Bel.refl w
  have hVlt := hV.lt
  refine callsV_of Try.func113 (m := 16) Try.ntmps113 rfl rfl (l := [.pointer (some ⟨b, 0, none⟩), undef, undef, undef, undef, undef, undef, undef, undef, undef, undef, undef, undef, undef, undef, undef, undef]) rfl ?_
  refine c_seq ?_
  refine c_region ?_
  refine s_val (v := (.slice none 0 0)) rfl (r_assign rfl) (rfl : _ = [_, _, _, _, _, _, _, _, _, _, _, _, _, _, _, _, _]) ?_
  refine s_nil rfl ?_
  refine x_seq ?_
  refine c_seq ?_
  refine c_region ?_
  refine s_val (v := (.slice none 0 0)) rfl (r_assign rfl) (rfl : _ = [_, _, _, _, _, _, _, _, _, _, _, _, _, _, _, _, _]) ?_
  refine s_nil rfl ?_
  refine x_seq ?_
  refine c_seq ?_
  refine c_seq ?_
  refine c_region ?_
  refine s_val (v := (.int .i64 0)) rfl (r_move rfl) (rfl : _ = [_, _, _, _, _, _, _, _, _, _, _, _, _, _, _, _, _]) ?_
  refine s_nil rfl ?_
  refine x_seq ?_
  refine c_block ?_
  refine c_unroll 8 ?_
  refine c_seq ?_
  refine c_region ?_
  refine s_val (v := (.bool true)) rfl (r_lss (a := 0) (b := 7) rfl rfl) (rfl : _ = [_, _, _, _, _, _, _, _, _, _, _, _, _, _, _, _, _]) ?_
  refine s_nil rfl ?_
  refine x_seq ?_
  refine c_seq ?_
  refine c_cond rfl (fun _ => ?_) (fun hh => by cases hh)
  refine c_skip ?_
  refine x_seq ?_
  refine c_seq ?_
  refine c_block ?_
  refine c_seq ?_
  refine c_region ?_
  refine s_val (v := (.int .i64 0)) rfl (r_move rfl) (rfl : _ = [_, _, _, _, _, _, _, _, _, _, _, _, _, _, _, _, _]) ?_
  refine s_val (v := (.int .i64 0)) rfl (r_assign rfl) (rfl : _ = [_, _, _, _, _, _, _, _, _, _, _, _, _, _, _, _, _]) ?_
  refine s_nil rfl ?_
  refine x_seq ?_
  refine c_seq ?_
  refine c_region ?_
  refine s_val (v := (.pointer (some ⟨b, 0, none⟩))) rfl (r_move rfl) (rfl : _ = [_, _, _, _, _, _, _, _, _, _, _, _, _, _, _, _, _]) ?_
  refine s_val (v := (.int .i64 0)) rfl (r_move rfl) (rfl : _ = [_, _, _, _, _, _, _, _, _, _, _, _, _, _, _, _, _]) ?_
  refine s_call 127 _ _ (by kernel_rfl) rfl rfl (hasn_c0 hV) ?_
  rintro _ w1 ⟨rfl, hb2⟩
  refine norm (rfl : _ = [_, _, _, _, _, _, _, _, _, _, _, _, _, _, _, _, _]) ?_
  have hc3 := Chg.of_bel hb2
  have hs4 := hc3.size
  replace hb := hb.chg hc3 (by omega)
  replace hV := hV.chg hc3 (by omega)
  refine s_nil rfl ?_
  refine x_seq ?_
  refine c_cond rfl (fun _ => ?_) (fun hh => by cases hh)
  refine c_region ?_
  refine s_val (v := (.slice none 0 0)) rfl (r_move rfl) (rfl : _ = [_, _, _, _, _, _, _, _, _, _, _, _, _, _, _, _, _]) ?_
  refine s_val (v := (.int .i64 0)) rfl (r_move rfl) (rfl : _ = [_, _, _, _, _, _, _, _, _, _, _, _, _, _, _, _, _]) ?_
  refine s_buildSlice (cs := [.int .i64 0]) (e := 3) 23 1 _ rfl rfl (by kernel_rfl) ?_
  intro a5 w6 he7 hB8 hc9 hz10
  refine norm (rfl : _ = [_, _, _, _, _, _, _, _, _, _, _, _, _, _, _, _, _]) ?_
  have hs11 := hc9.size
  replace hb := hb.chg hc9 (by omega)
  replace hV := hV.chg hc9 (by omega)
  refine s_appendX kInt (z := (.int .i64 0)) (bytes := 8) (ys := [0]) (ok2 := fun _ => False) Try.underlying23 (by kernel_rfl) rfl (by decide) (by decide) (by decide) rfl (OwnX.nil kInt 3 (a := 0) (n := w6.heap.size) (w := w6) (by omega) (Nat.le_refl _)) rfl (flat_one rfl) (had_bx hB8) (fun _ hb _ => hb.elim) (by simp [lim]) ?_
  intro v12 w13 hO14 hc15
  refine norm (rfl : _ = [_, _, _, _, _, _, _, _, _, _, _, _, _, _, _, _, _]) ?_
  have hs16 := hc15.size
  replace hb := hb.chg hc15 (by omega)
  replace hV := hV.chg hc15 (by omega)
  refine s_val (v := v12) rfl (r_assign rfl) (rfl : _ = [_, _, _, _, _, _, _, _, _, _, _, _, _, _, _, _, _]) ?_
  refine s_nil rfl ?_
  refine x_block ?_
  refine x_seq ?_
  refine c_region ?_
  refine s_val (v := (.int .i64 1)) rfl (r_add (c := 1) rfl rfl (by decide)) (rfl : _ = [_, _, _, _, _, _, _, _, _, _, _, _, _, _, _, _, _]) ?_
  refine s_val (v := (.int .i64 1)) rfl (r_move rfl) (rfl : _ = [_, _, _, _, _, _, _, _, _, _, _, _, _, _, _, _, _]) ?_
  refine s_nil rfl ?_
  refine x_round ?_
  refine c_seq ?_
  refine c_region ?_
  refine s_val (v := (.bool true)) rfl (r_lss (a := 1) (b := 7) rfl rfl) (rfl : _ = [_, _, _, _, _, _, _, _, _, _, _, _, _, _, _, _, _]) ?_
  refine s_nil rfl ?_
  refine x_seq ?_
  refine c_seq ?_
  refine c_cond rfl (fun _ => ?_) (fun hh => by cases hh)
  refine c_skip ?_
  refine x_seq ?_
  refine c_seq ?_
  refine c_block ?_
  refine c_seq ?_
  refine c_region ?_
  refine s_val (v := (.int .i64 1)) rfl (r_move rfl) (rfl : _ = [_, _, _, _, _, _, _, _, _, _, _, _, _, _, _, _, _]) ?_
  refine s_val (v := (.int .i64 1)) rfl (r_assign rfl) (rfl : _ = [_, _, _, _, _, _, _, _, _, _, _, _, _, _, _, _, _]) ?_
  refine s_nil rfl ?_
  refine x_seq ?_
  refine c_seq ?_
  refine c_region ?_
  refine s_val (v := (.pointer (some ⟨b, 0, none⟩))) rfl (r_move rfl) (rfl : _ = [_, _, _, _, _, _, _, _, _, _, _, _, _, _, _, _, _]) ?_
  refine s_val (v := (.int .i64 1)) rfl (r_move rfl) (rfl : _ = [_, _, _, _, _, _, _, _, _, _, _, _, _, _, _, _, _]) ?_
  refine s_call 127 _ _ (by kernel_rfl) rfl rfl (hasn_c1 hV) ?_
  rintro _ w17 ⟨rfl, hb18⟩
  refine norm (rfl : _ = [_, _, _, _, _, _, _, _, _, _, _, _, _, _, _, _, _]) ?_
  have hc19 := Chg.of_bel hb18
  have hs20 := hc19.size
  replace hb := hb.chg hc19 (by omega)
  replace hV := hV.chg hc19 (by omega)
  replace hO14 := hO14.chg hc19 (by omega)
  refine s_nil rfl ?_
  refine x_seq ?_
  refine c_cond rfl (fun _ => ?_) (fun hh => by cases hh)
  refine c_region ?_
  refine s_val (v := v12) rfl (r_move rfl) (rfl : _ = [_, _, _, _, _, _, _, _, _, _, _, _, _, _, _, _, _]) ?_
  refine s_val (v := (.int .i64 1)) rfl (r_move rfl) (rfl : _ = [_, _, _, _, _, _, _, _, _, _, _, _, _, _, _, _, _]) ?_
  refine s_buildSlice (cs := [.int .i64 1]) (e := 3) 23 1 _ rfl rfl (by kernel_rfl) ?_
  intro a21 w22 he23 hB24 hc25 hz26
  refine norm (rfl : _ = [_, _, _, _, _, _, _, _, _, _, _, _, _, _, _, _, _]) ?_
  have hs27 := hc25.size
  replace hb := hb.chg hc25 (by omega)
  replace hV := hV.chg hc25 (by omega)
  replace hO14 := hO14.chg hc25 (by omega)
  refine s_appendX kInt (z := (.int .i64 0)) (bytes := 8) (ys := [1]) (ok2 := fun _ => False) Try.underlying23 (by kernel_rfl) rfl (by decide) (by decide) (by decide) rfl hO14 rfl (flat_one rfl) (had_bx hB24) (fun _ hb _ => hb.elim) (by simp [lim]) ?_
  intro v28 w29 hO30 hc31
  refine norm (rfl : _ = [_, _, _, _, _, _, _, _, _, _, _, _, _, _, _, _, _]) ?_
  have hs32 := hc31.size
  replace hb := hb.chg hc31 (by omega)
  replace hV := hV.chg hc31 (by omega)
  refine s_val (v := v28) rfl (r_assign rfl) (rfl : _ = [_, _, _, _, _, _, _, _, _, _, _, _, _, _, _, _, _]) ?_
  refine s_nil rfl ?_
  refine x_block ?_
  refine x_seq ?_
  refine c_region ?_
  refine s_val (v := (.int .i64 2)) rfl (r_add (c := 2) rfl rfl (by decide)) (rfl : _ = [_, _, _, _, _, _, _, _, _, _, _, _, _, _, _, _, _]) ?_
  refine s_val (v := (.int .i64 2)) rfl (r_move rfl) (rfl : _ = [_, _, _, _, _, _, _, _, _, _, _, _, _, _, _, _, _]) ?_
  refine s_nil rfl ?_
  refine x_round ?_
  refine c_seq ?_
  refine c_region ?_
  refine s_val (v := (.bool true)) rfl (r_lss (a := 2) (b := 7) rfl rfl) (rfl : _ = [_, _, _, _, _, _, _, _, _, _, _, _, _, _, _, _, _]) ?_
  refine s_nil rfl ?_
  refine x_seq ?_
  refine c_seq ?_
  refine c_cond rfl (fun _ => ?_) (fun hh => by cases hh)
  refine c_skip ?_
  refine x_seq ?_
  refine c_seq ?_
  refine c_block ?_
  refine c_seq ?_
  refine c_region ?_
  refine s_val (v := (.int .i64 2)) rfl (r_move rfl) (rfl : _ = [_, _, _, _, _, _, _, _, _, _, _, _, _, _, _, _, _]) ?_
  refine s_val (v := (.int .i64 2)) rfl (r_assign rfl) (rfl : _ = [_, _, _, _, _, _, _, _, _, _, _, _, _, _, _, _, _]) ?_
  refine s_nil rfl ?_
  refine x_seq ?_
  refine c_seq ?_
  refine c_region ?_
  refine s_val (v := (.pointer (some ⟨b, 0, none⟩))) rfl (r_move rfl) (rfl : _ = [_, _, _, _, _, _, _, _, _, _, _, _, _, _, _, _, _]) ?_
  refine s_val (v := (.int .i64 2)) rfl (r_move rfl) (rfl : _ = [_, _, _, _, _, _, _, _, _, _, _, _, _, _, _, _, _]) ?_
  refine s_call 127 _ _ (by kernel_rfl) rfl rfl (hasn_c2 hV) ?_
  rintro _ w33 ⟨rfl, hb34⟩
  refine norm (rfl : _ = [_, _, _, _, _, _, _, _, _, _, _, _, _, _, _, _, _]) ?_
  have hc35 := Chg.of_bel hb34
  have hs36 := hc35.size
  replace hb := hb.chg hc35 (by omega)
  replace hV := hV.chg hc35 (by omega)
  replace hO30 := hO30.chg hc35 (by omega)
  refine s_nil rfl ?_
  refine x_seq ?_
  refine c_cond rfl (fun hh => by cases hh) (fun _ => ?_)
  refine c_skip ?_
  refine x_block ?_
  refine x_seq ?_
  refine c_region ?_
  refine s_val (v := (.int .i64 3)) rfl (r_add (c := 3) rfl rfl (by decide)) (rfl : _ = [_, _, _, _, _, _, _, _, _, _, _, _, _, _, _, _, _]) ?_
  refine s_val (v := (.int .i64 3)) rfl (r_move rfl) (rfl : _ = [_, _, _, _, _, _, _, _, _, _, _, _, _, _, _, _, _]) ?_
  refine s_nil rfl ?_
  refine x_round ?_
  refine c_seq ?_
  refine c_region ?_
  refine s_val (v := (.bool true)) rfl (r_lss (a := 3) (b := 7) rfl rfl) (rfl : _ = [_, _, _, _, _, _, _, _, _, _, _, _, _, _, _, _, _]) ?_
  refine s_nil rfl ?_
  refine x_seq ?_
  refine c_seq ?_
  refine c_cond rfl (fun _ => ?_) (fun hh => by cases hh)
  refine c_skip ?_
  refine x_seq ?_
  refine c_seq ?_
  refine c_block ?_
  refine c_seq ?_
  refine c_region ?_
  refine s_val (v := (.int .i64 3)) rfl (r_move rfl) (rfl : _ = [_, _, _, _, _, _, _, _, _, _, _, _, _, _, _, _, _]) ?_
  refine s_val (v := (.int .i64 3)) rfl (r_assign rfl) (rfl : _ = [_, _, _, _, _, _, _, _, _, _, _, _, _, _, _, _, _]) ?_
  refine s_nil rfl ?_
  refine x_seq ?_
  refine c_seq ?_
  refine c_region ?_
  refine s_val (v := (.pointer (some ⟨b, 0, none⟩))) rfl (r_move rfl) (rfl : _ = [_, _, _, _, _, _, _, _, _, _, _, _, _, _, _, _, _]) ?_
  refine s_val (v := (.int .i64 3)) rfl (r_move rfl) (rfl : _ = [_, _, _, _, _, _, _, _, _, _, _, _, _, _, _, _, _]) ?_
  refine s_call 127 _ _ (by kernel_rfl) rfl rfl (hasn_c3 hV) ?_
  rintro _ w37 ⟨rfl, hb38⟩
  refine norm (rfl : _ = [_, _, _, _, _, _, _, _, _, _, _, _, _, _, _, _, _]) ?_
  have hc39 := Chg.of_bel hb38
  have hs40 := hc39.size
  replace hb := hb.chg hc39 (by omega)
  replace hV := hV.chg hc39 (by omega)
  replace hO30 := hO30.chg hc39 (by omega)
  refine s_nil rfl ?_
  refine x_seq ?_
  refine c_cond rfl (fun hh => by cases hh) (fun _ => ?_)
  refine c_skip ?_
  refine x_block ?_
  refine x_seq ?_
  refine c_region ?_
  refine s_val (v := (.int .i64 4)) rfl (r_add (c := 4) rfl rfl (by decide)) (rfl : _ = [_, _, _, _, _, _, _, _, _, _, _, _, _, _, _, _, _]) ?_
  refine s_val (v := (.int .i64 4)) rfl (r_move rfl) (rfl : _ = [_, _, _, _, _, _, _, _, _, _, _, _, _, _, _, _, _]) ?_
  refine s_nil rfl ?_
  refine x_round ?_
  refine c_seq ?_
  refine c_region ?_
  refine s_val (v := (.bool true)) rfl (r_lss (a := 4) (b := 7) rfl rfl) (rfl : _ = [_, _, _, _, _, _, _, _, _, _, _, _, _, _, _, _, _]) ?_
  refine s_nil rfl ?_
  refine x_seq ?_
  refine c_seq ?_
  refine c_cond rfl (fun _ => ?_) (fun hh => by cases hh)
  refine c_skip ?_
  refine x_seq ?_
  refine c_seq ?_
  refine c_block ?_
  refine c_seq ?_
  refine c_region ?_
  refine s_val (v := (.int .i64 4)) rfl (r_move rfl) (rfl : _ = [_, _, _, _, _, _, _, _, _, _, _, _, _, _, _, _, _]) ?_
  refine s_val (v := (.int .i64 4)) rfl (r_assign rfl) (rfl : _ = [_, _, _, _, _, _, _, _, _, _, _, _, _, _, _, _, _]) ?_
  refine s_nil rfl ?_
  refine x_seq ?_
  refine c_seq ?_
  refine c_region ?_
  refine s_val (v := (.pointer (some ⟨b, 0, none⟩))) rfl (r_move rfl) (rfl : _ = [_, _, _, _, _, _, _, _, _, _, _, _, _, _, _, _, _]) ?_
  refine s_val (v := (.int .i64 4)) rfl (r_move rfl) (rfl : _ = [_, _, _, _, _, _, _, _, _, _, _, _, _, _, _, _, _]) ?_
  refine s_call 127 _ _ (by kernel_rfl) rfl rfl (hasn_c4 hV) ?_
  rintro _ w41 ⟨rfl, hb42⟩
  refine norm (rfl : _ = [_, _, _, _, _, _, _, _, _, _, _, _, _, _, _, _, _]) ?_
  have hc43 := Chg.of_bel hb42
  have hs44 := hc43.size
  replace hb := hb.chg hc43 (by omega)
  replace hV := hV.chg hc43 (by omega)
  replace hO30 := hO30.chg hc43 (by omega)
  refine s_nil rfl ?_
  refine x_seq ?_
  refine c_cond rfl (fun hh => by cases hh) (fun _ => ?_)
  refine c_skip ?_
  refine x_block ?_
  refine x_seq ?_
  refine c_region ?_
  refine s_val (v := (.int .i64 5)) rfl (r_add (c := 5) rfl rfl (by decide)) (rfl : _ = [_, _, _, _, _, _, _, _, _, _, _, _, _, _, _, _, _]) ?_
  refine s_val (v := (.int .i64 5)) rfl (r_move rfl) (rfl : _ = [_, _, _, _, _, _, _, _, _, _, _, _, _, _, _, _, _]) ?_
  refine s_nil rfl ?_
  refine x_round ?_
  refine c_seq ?_
  refine c_region ?_
  refine s_val (v := (.bool true)) rfl (r_lss (a := 5) (b := 7) rfl rfl) (rfl : _ = [_, _, _, _, _, _, _, _, _, _, _, _, _, _, _, _, _]) ?_
  refine s_nil rfl ?_
  refine x_seq ?_
  refine c_seq ?_
  refine c_cond rfl (fun _ => ?_) (fun hh => by cases hh)
  refine c_skip ?_
  refine x_seq ?_
  refine c_seq ?_
  refine c_block ?_
  refine c_seq ?_
  refine c_region ?_
  refine s_val (v := (.int .i64 5)) rfl (r_move rfl) (rfl : _ = [_, _, _, _, _, _, _, _, _, _, _, _, _, _, _, _, _]) ?_
  refine s_val (v := (.int .i64 5)) rfl (r_assign rfl) (rfl : _ = [_, _, _, _, _, _, _, _, _, _, _, _, _, _, _, _, _]) ?_
  refine s_nil rfl ?_
  refine x_seq ?_
  refine c_seq ?_
  refine c_region ?_
  refine s_val (v := (.pointer (some ⟨b, 0, none⟩))) rfl (r_move rfl) (rfl : _ = [_, _, _, _, _, _, _, _, _, _, _, _, _, _, _, _, _]) ?_
  refine s_val (v := (.int .i64 5)) rfl (r_move rfl) (rfl : _ = [_, _, _, _, _, _, _, _, _, _, _, _, _, _, _, _, _]) ?_
  refine s_call 127 _ _ (by kernel_rfl) rfl rfl (hasn_c5 hV) ?_
  rintro _ w45 ⟨rfl, hb46⟩
  refine norm (rfl : _ = [_, _, _, _, _, _, _, _, _, _, _, _, _, _, _, _, _]) ?_
  have hc47 := Chg.of_bel hb46
  have hs48 := hc47.size
  replace hb := hb.chg hc47 (by omega)
  replace hV := hV.chg hc47 (by omega)
  replace hO30 := hO30.chg hc47 (by omega)
  refine s_nil rfl ?_
  refine x_seq ?_
  refine c_cond rfl (fun hh => by cases hh) (fun _ => ?_)
  refine c_skip ?_
  refine x_block ?_
  refine x_seq ?_
  refine c_region ?_
  refine s_val (v := (.int .i64 6)) rfl (r_add (c := 6) rfl rfl (by decide)) (rfl : _ = [_, _, _, _, _, _, _, _, _, _, _, _, _, _, _, _, _]) ?_
  refine s_val (v := (.int .i64 6)) rfl (r_move rfl) (rfl : _ = [_, _, _, _, _, _, _, _, _, _, _, _, _, _, _, _, _]) ?_
  refine s_nil rfl ?_
  refine x_round ?_
  refine c_seq ?_
  refine c_region ?_
  refine s_val (v := (.bool true)) rfl (r_lss (a := 6) (b := 7) rfl rfl) (rfl : _ = [_, _, _, _, _, _, _, _, _, _, _, _, _, _, _, _, _]) ?_
  refine s_nil rfl ?_
  refine x_seq ?_
  refine c_seq ?_
  refine c_cond rfl (fun _ => ?_) (fun hh => by cases hh)
  refine c_skip ?_
  refine x_seq ?_
  refine c_seq ?_
  refine c_block ?_
  refine c_seq ?_
  refine c_region ?_
  refine s_val (v := (.int .i64 6)) rfl (r_move rfl) (rfl : _ = [_, _, _, _, _, _, _, _, _, _, _, _, _, _, _, _, _]) ?_
  refine s_val (v := (.int .i64 6)) rfl (r_assign rfl) (rfl : _ = [_, _, _, _, _, _, _, _, _, _, _, _, _, _, _, _, _]) ?_
  refine s_nil rfl ?_
  refine x_seq ?_
  refine c_seq ?_
  refine c_region ?_
  refine s_val (v := (.pointer (some ⟨b, 0, none⟩))) rfl (r_move rfl) (rfl : _ = [_, _, _, _, _, _, _, _, _, _, _, _, _, _, _, _, _]) ?_
  refine s_val (v := (.int .i64 6)) rfl (r_move rfl) (rfl : _ = [_, _, _, _, _, _, _, _, _, _, _, _, _, _, _, _, _]) ?_
  refine s_call 127 _ _ (by kernel_rfl) rfl rfl (hasn_c6 hV) ?_
  rintro _ w49 ⟨rfl, hb50⟩
  refine norm (rfl : _ = [_, _, _, _, _, _, _, _, _, _, _, _, _, _, _, _, _]) ?_
  have hc51 := Chg.of_bel hb50
  have hs52 := hc51.size
  replace hb := hb.chg hc51 (by omega)
  replace hV := hV.chg hc51 (by omega)
  replace hO30 := hO30.chg hc51 (by omega)
  refine s_nil rfl ?_
  refine x_seq ?_
  refine c_cond rfl (fun hh => by cases hh) (fun _ => ?_)
  refine c_skip ?_
  refine x_block ?_
  refine x_seq ?_
  refine c_region ?_
  refine s_val (v := (.int .i64 7)) rfl (r_add (c := 7) rfl rfl (by decide)) (rfl : _ = [_, _, _, _, _, _, _, _, _, _, _, _, _, _, _, _, _]) ?_
  refine s_val (v := (.int .i64 7)) rfl (r_move rfl) (rfl : _ = [_, _, _, _, _, _, _, _, _, _, _, _, _, _, _, _, _]) ?_
  refine s_nil rfl ?_
  refine x_round ?_
  refine c_seq ?_
  refine c_region ?_
  refine s_val (v := (.bool false)) rfl (r_lss (a := 7) (b := 7) rfl rfl) (rfl : _ = [_, _, _, _, _, _, _, _, _, _, _, _, _, _, _, _, _]) ?_
  refine s_nil rfl ?_
  refine x_seq ?_
  refine c_seq ?_
  refine c_cond rfl (fun hh => by cases hh) (fun _ => ?_)
  refine c_exit ?_
  refine x_then_exit ?_
  refine x_then_exit ?_
  refine x_block_same ?_
  refine x_seq ?_
  refine c_seq ?_
  refine c_region ?_
  refine s_val (v := v28) rfl (r_move rfl) (rfl : _ = [_, _, _, _, _, _, _, _, _, _, _, _, _, _, _, _, _]) ?_
  refine s_val (v := v28) rfl (r_assign rfl) (rfl : _ = [_, _, _, _, _, _, _, _, _, _, _, _, _, _, _, _, _]) ?_
  refine s_nil rfl ?_
  refine x_seq ?_
  refine c_ret ?_
  refine post_ret rfl rfl ?_
  exact ⟨hO30.sl.rg (by decide) (fun b _ hh => by omega), hb⟩

theorem count_c_two {w : World} {b : Nat} (hV : Bx w b [.bool true, .bool true, .bool false, .bool false, .bool false, .bool false, .bool false, .int .i64 3] 113) :
    CallsV Try.prog 82 #[(.pointer (some ⟨b, 0, none⟩))] w (fun r w' => r = .int .i64 2 ∧ Bel w w') := by
  have hb := Bel.refl w
  have hVlt := hV.lt
  refine callsV_of Try.func82 (m := 15) Try.ntmps82 rfl rfl (l := [.pointer (some ⟨b, 0, none⟩), undef, undef, undef, undef, undef, undef, undef, undef, undef, undef, undef, undef, undef, undef, undef]) rfl ?_
  refine c_seq ?_
  refine c_region ?_
  refine s_val (v := (.int .i64 0)) rfl (r_assign rfl) (rfl : _ = [_, _, _, _, _, _, _, _, _, _, _, _, _, _, _, _]) ?_
  refine s_nil rfl ?_
  refine x_seq ?_
  refine c_seq ?_
  refine c_seq ?_
  refine c_region ?_
  refine s_val (v := (.pointer (some ⟨b, 0, none⟩))) rfl (r_move rfl) (rfl : _ = [_, _, _, _, _, _, _, _, _, _, _, _, _, _, _, _]) ?_
  refine s_val (v := (.bool false)) rfl (r_eqp0 Try.underlying79 rfl) (rfl : _ = [_, _, _, _, _, _, _, _, _, _, _, _, _, _, _, _]) ?_
  refine s_val (v := (.bool false)) rfl (r_move rfl) (rfl : _ = [_, _, _, _, _, _, _, _, _, _, _, _, _, _, _, _]) ?_
  refine s_val (v := (.pointer (some ⟨b, 0, none⟩))) (wan_t (dj := 5) rfl rfl) (r_move rfl) (rfl : _ = [_, _, _, _, _, _, _, _, _, _, _, _, _, _, _, _]) ?_
  refine s_val (v := (.pointer (some ⟨b, 0, none⟩))) (wan_t (dj := 5) rfl rfl) (r_nilck rfl) (rfl : _ = [_, _, _, _, _, _, _, _, _, _, _, _, _, _, _, _]) ?_
  refine s_val (v := (.pointer (some ⟨b, 0, none⟩))) (wan_t (dj := 5) rfl rfl) (r_field (k := 0) (o := 0) (by kernel_rfl) rfl) (rfl : _ = [_, _, _, _, _, _, _, _, _, _, _, _, _, _, _, _]) ?_
  refine s_val (v := (.agg #[.bool true, .bool true, .bool false, .bool false, .bool false, .bool false, .bool false])) (wan_t (dj := 5) rfl rfl) (r_load rfl (Ld.row (cs := [.bool true, .bool true, .bool false, .bool false, .bool false, .bool false, .bool false]) Try.underlying111 rfl (by kernel_rfl) (hV.range 0 rfl))) (rfl : _ = [_, _, _, _, _, _, _, _, _, _, _, _, _, _, _, _]) ?_
  refine s_val (wan_t (dj := 5) rfl rfl) (r_build (v := (.agg #[.bool false, .bool false, .bool false, .bool false, .bool false, .bool false, .bool false])) rfl (by kernel_rfl)) (rfl : _ = [_, _, _, _, _, _, _, _, _, _, _, _, _, _, _, _]) ?_
  have heq : (Op.equalIn 10000 111 (.agg #[.bool true, .bool true, .bool false, .bool false, .bool false, .bool false, .bool false]) (.agg #[.bool false, .bool false, .bool false, .bool false, .bool false, .bool false, .bool false])).run Try.prog w = .ok false w := by kernel_rfl
  refine s_val (v := (.bool false)) (wan_t (dj := 5) rfl rfl) (r_eq_agg (by kernel_rfl) rfl rfl heq) (rfl : _ = [_, _, _, _, _, _, _, _, _, _, _, _, _, _, _, _]) ?_
  refine s_val (v := (.bool false)) rfl (r_pick rfl rfl) (rfl : _ = [_, _, _, _, _, _, _, _, _, _, _, _, _, _, _, _]) ?_
  refine s_nil rfl ?_
  refine x_seq ?_
  refine c_cond rfl (fun hh => by cases hh) (fun _ => ?_)
  refine c_skip ?_
  refine x_seq ?_
  refine c_seq ?_
  refine c_region ?_
  refine s_val (v := (.pointer (some ⟨b, 0, none⟩))) rfl (r_move rfl) (rfl : _ = [_, _, _, _, _, _, _, _, _, _, _, _, _, _, _, _]) ?_
  refine s_call 113 _ _ (by kernel_rfl) rfl rfl (all_c_two hV) ?_
  rintro v1 w2 ⟨hS3, hb4⟩
  refine norm (rfl : _ = [_, _, _, _, _, _, _, _, _, _, _, _, _, _, _, _]) ?_
  have hc5 := Chg.of_bel hb4
  have hs6 := hc5.size
  replace hb := hb.chg hc5 (by omega)
  replace hV := hV.chg hc5 (by omega)
  refine s_val (v := (.int .i64 ([0, 1].length : Int))) rfl (hS3.len Try.underlying23 rfl _) (rfl : _ = [_, _, _, _, _, _, _, _, _, _, _, _, _, _, _, _]) ?_
  refine s_val (v := (.int .i64 ([0, 1].length : Int))) rfl (r_assign rfl) (rfl : _ = [_, _, _, _, _, _, _, _, _, _, _, _, _, _, _, _]) ?_
  refine s_nil rfl ?_
  refine x_seq ?_
  refine c_ret ?_
  refine post_ret rfl rfl ?_
  exact ⟨rfl, hb⟩

theorem enough_c_two {w : World} {b : Nat} (hV : Bx w b [.bool true, .bool true, .bool false, .bool false, .bool false, .bool false, .bool false, .int .i64 3] 113) :
    CallsV Try.prog 50 #[(.pointer (some ⟨b, 0, none⟩))] w (fun r w' => r = .bool true ∧ Bel w w') := by
  have hb := Bel.refl w
  have hVlt := hV.lt
  refine callsV_of Try.func50 (m := 21) Try.ntmps50 rfl rfl (l := [.pointer (some ⟨b, 0, none⟩), undef, undef, undef, undef, undef, undef, undef, undef, undef, undef, undef, undef, undef, undef, undef, undef, undef, undef, undef, undef, undef]) rfl ?_
  refine c_seq ?_
  refine c_region ?_
  refine s_val (v := (.bool false)) rfl (r_assign rfl) (rfl : _ = [_, _, _, _, _, _, _, _, _, _, _, _, _, _, _, _, _, _, _, _, _, _]) ?_
  refine s_nil rfl ?_
  refine x_seq ?_
  refine c_seq ?_
  refine c_draw (by kernel_rfl) (by kernel_rfl) ?_
  refine q_val (v := (.pointer (some ⟨b, 0, none⟩))) rfl (fun w' hC => r_move rfl) (rfl : _ = [_, _, _, _, _, _, _, _, _, _, _, _, _, _, _, _, _, _, _, _, _, _]) ?_
  refine q_val (v := (.bool true)) rfl (fun w' hC => r_nep0 Try.underlying79 rfl) (rfl : _ = [_, _, _, _, _, _, _, _, _, _, _, _, _, _, _, _, _, _, _, _, _, _]) ?_
  refine q_val (v := (.bool true)) rfl (fun w' hC => r_move rfl) (rfl : _ = [_, _, _, _, _, _, _, _, _, _, _, _, _, _, _, _, _, _, _, _, _, _]) ?_
  refine q_val (v := (.pointer (some ⟨b, 0, none⟩))) (wan_t (dj := 5) rfl rfl) (fun w' hC => r_move rfl) (rfl : _ = [_, _, _, _, _, _, _, _, _, _, _, _, _, _, _, _, _, _, _, _, _, _]) ?_
  refine q_val (v := (.pointer (some ⟨b, 0, none⟩))) (wan_t (dj := 5) rfl rfl) (fun w' hC => r_nilck rfl) (rfl : _ = [_, _, _, _, _, _, _, _, _, _, _, _, _, _, _, _, _, _, _, _, _, _]) ?_
  refine q_val (v := (.pointer (some ⟨b, 7, none⟩))) (wan_t (dj := 5) rfl rfl) (fun w' hC => r_field (k := 7) (o := 0) (by kernel_rfl) rfl) (rfl : _ = [_, _, _, _, _, _, _, _, _, _, _, _, _, _, _, _, _, _, _, _, _, _]) ?_
  refine q_val (v := (.int .i64 3)) (wan_t (dj := 5) rfl rfl) (fun w' hC => r_load rfl (Ld.one Try.underlying3 rfl ((hV.below hC).cell (i := 7) rfl))) (rfl : _ = [_, _, _, _, _, _, _, _, _, _, _, _, _, _, _, _, _, _, _, _, _, _]) ?_
  refine q_val (v := (.bool true)) (wan_t (dj := 5) rfl rfl) (fun w' hC => r_gtr (a := 3) (b := 0) rfl rfl) (rfl : _ = [_, _, _, _, _, _, _, _, _, _, _, _, _, _, _, _, _, _, _, _, _, _]) ?_
  refine q_val (v := (.bool true)) rfl (fun w' hC => r_pick rfl rfl) (rfl : _ = [_, _, _, _, _, _, _, _, _, _, _, _, _, _, _, _, _, _, _, _, _, _]) ?_
  refine q_val (v := (.bool true)) rfl (fun w' hC => r_move rfl) (rfl : _ = [_, _, _, _, _, _, _, _, _, _, _, _, _, _, _, _, _, _, _, _, _, _]) ?_
  refine q_val (v := (.pointer (some ⟨b, 0, none⟩))) (wan_t (dj := 12) rfl rfl) (fun w' hC => r_move rfl) (rfl : _ = [_, _, _, _, _, _, _, _, _, _, _, _, _, _, _, _, _, _, _, _, _, _]) ?_
  refine q_call (by kernel_rfl) (wan_t (dj := 12) rfl rfl) rfl (fun w' hC => count_c_two (hV.below hC)) ?_
  refine q_norm (rfl : _ = [_, _, _, _, _, _, _, _, _, _, _, _, _, _, _, _, _, _, _, _, _, _]) ?_
  refine q_val (v := (.pointer (some ⟨b, 0, none⟩))) (wan_t (dj := 12) rfl rfl) (fun w' hC => r_move rfl) (rfl : _ = [_, _, _, _, _, _, _, _, _, _, _, _, _, _, _, _, _, _, _, _, _, _]) ?_
  refine q_val (v := (.pointer (some ⟨b, 0, none⟩))) (wan_t (dj := 12) rfl rfl) (fun w' hC => r_nilck rfl) (rfl : _ = [_, _, _, _, _, _, _, _, _, _, _, _, _, _, _, _, _, _, _, _, _, _]) ?_
  refine q_val (v := (.pointer (some ⟨b, 7, none⟩))) (wan_t (dj := 12) rfl rfl) (fun w' hC => r_field (k := 7) (o := 0) (by kernel_rfl) rfl) (rfl : _ = [_, _, _, _, _, _, _, _, _, _, _, _, _, _, _, _, _, _, _, _, _, _]) ?_
  refine q_val (v := (.int .i64 3)) (wan_t (dj := 12) rfl rfl) (fun w' hC => r_load rfl (Ld.one Try.underlying3 rfl ((hV.below hC).cell (i := 7) rfl))) (rfl : _ = [_, _, _, _, _, _, _, _, _, _, _, _, _, _, _, _, _, _, _, _, _, _]) ?_
  refine q_call (by kernel_rfl) (wan_t (dj := 12) rfl rfl) rfl (fun w' hC => quorum_c3) ?_
  refine q_norm (rfl : _ = [_, _, _, _, _, _, _, _, _, _, _, _, _, _, _, _, _, _, _, _, _, _]) ?_
  refine q_val (v := (.bool true)) (wan_t (dj := 12) rfl rfl) (fun w' hC => r_geq (a := 2) (b := 2) rfl rfl) (rfl : _ = [_, _, _, _, _, _, _, _, _, _, _, _, _, _, _, _, _, _, _, _, _, _]) ?_
  refine q_val (v := (.bool true)) rfl (fun w' hC => r_pick rfl rfl) (rfl : _ = [_, _, _, _, _, _, _, _, _, _, _, _, _, _, _, _, _, _, _, _, _, _]) ?_
  refine q_val (v := (.bool true)) rfl (fun w' hC => r_assign rfl) (rfl : _ = [_, _, _, _, _, _, _, _, _, _, _, _, _, _, _, _, _, _, _, _, _, _]) ?_
  refine q_nil rfl ?_
  intro w1 hq2
  have hc3 := Chg.of_bel hq2
  have hs4 := hc3.size
  replace hb := hb.chg hc3 (by omega)
  replace hV := hV.chg hc3 (by omega)
  refine x_seq ?_
  refine c_ret ?_
  refine post_ret rfl rfl ?_
  exact ⟨rfl, hb⟩

theorem new_c {w : World} :
    CallsV Try.prog 48 #[(.int .i64 3)] w (fun r w' => ∃ b, r = .tuple #[.pointer (some ⟨b, 0, none⟩), .int .i64 0] ∧ w.heap.size ≤ b ∧ b < w'.heap.size ∧ Bx w' b [.bool false, .bool false, .bool false, .bool false, .bool false, .bool false, .bool false, .int .i64 3] 113 ∧ Bel w w') := by
  have hb := Bel.refl w
  refine callsV_of Try.func48 (m := 12) Try.ntmps48 rfl rfl (l := [.int .i64 3, undef, undef, undef, undef, undef, undef, undef, undef, undef, undef, undef, undef]) rfl ?_
  refine c_seq ?_
  refine c_region ?_
  refine s_val (v := (.pointer none)) rfl (r_assign rfl) (rfl : _ = [_, _, _, _, _, _, _, _, _, _, _, _, _]) ?_
  refine s_val (v := (.int .i64 0)) rfl (r_assign rfl) (rfl : _ = [_, _, _, _, _, _, _, _, _, _, _, _, _]) ?_
  refine s_nil rfl ?_
  refine x_seq ?_
  refine c_seq ?_
  refine c_seq ?_
  refine c_region ?_
  refine s_val (v := (.int .i64 3)) rfl (r_move rfl) (rfl : _ = [_, _, _, _, _, _, _, _, _, _, _, _, _]) ?_
  refine s_val (v := (.bool false)) rfl (r_lss (a := 3) (b := 1) rfl rfl) (rfl : _ = [_, _, _, _, _, _, _, _, _, _, _, _, _]) ?_
  refine s_val (v := (.bool false)) rfl (r_move rfl) (rfl : _ = [_, _, _, _, _, _, _, _, _, _, _, _, _]) ?_
  refine s_val (v := (.int .i64 3)) (wan_t (dj := 6) rfl rfl) (r_move rfl) (rfl : _ = [_, _, _, _, _, _, _, _, _, _, _, _, _]) ?_
  refine s_val (v := (.bool false)) (wan_t (dj := 6) rfl rfl) (r_gtr (a := 3) (b := 7) rfl rfl) (rfl : _ = [_, _, _, _, _, _, _, _, _, _, _, _, _]) ?_
  refine s_val (v := (.bool false)) rfl (r_pick rfl rfl) (rfl : _ = [_, _, _, _, _, _, _, _, _, _, _, _, _]) ?_
  refine s_nil rfl ?_
  refine x_seq ?_
  refine c_cond rfl (fun hh => by cases hh) (fun _ => ?_)
  refine c_skip ?_
  refine x_seq ?_
  refine c_seq ?_
  refine c_region ?_
  refine s_val (v := (.int .i64 3)) rfl (r_move rfl) (rfl : _ = [_, _, _, _, _, _, _, _, _, _, _, _, _]) ?_
  refine s_val rfl (r_build (v := (.agg #[.bool false, .bool false, .bool false, .bool false, .bool false, .bool false, .bool false, .int .i64 3])) rfl (by kernel_rfl)) (rfl : _ = [_, _, _, _, _, _, _, _, _, _, _, _, _]) ?_
  refine s_box (v := (.agg #[.bool false, .bool false, .bool false, .bool false, .bool false, .bool false, .bool false, .int .i64 3])) 113 _ rfl rfl ?_
  intro a1 w2 he3 hB4 hc5 hz6
  refine norm (rfl : _ = [_, _, _, _, _, _, _, _, _, _, _, _, _]) ?_
  have hs7 := hc5.size
  replace hb := hb.chg hc5 (by omega)
  refine s_val (v := (.pointer (some ⟨a1, 0, none⟩))) rfl (r_assign rfl) (rfl : _ = [_, _, _, _, _, _, _, _, _, _, _, _, _]) ?_
  refine s_val (v := (.int .i64 0)) rfl (r_assign rfl) (rfl : _ = [_, _, _, _, _, _, _, _, _, _, _, _, _]) ?_
  refine s_nil rfl ?_
  refine x_seq ?_
  refine c_ret ?_
  refine post_ret2 rfl rfl rfl ?_
  exact ⟨_, rfl, by omega, by omega, hB4, hb⟩

theorem add_c1ff {w : World} {b : Nat} (hV : Bx w b [.bool false, .bool false, .bool false, .bool false, .bool false, .bool false, .bool false, .int .i64 3] 113) :
    CallsV Try.prog 49 #[(.pointer (some ⟨b, 0, none⟩)), (.int .i64 1)] w (fun r w' => r = .bool true ∧ Bx w' b [.bool false, .bool true, .bool false, .bool false, .bool false, .bool false, .bool false, .int .i64 3] 113 ∧ Chg b (b + 1) w w') := by
  have hb := Bel.refl w
  have hb : Chg b (b + 1) w w := Chg.refl _ _ _
  refine callsV_of Try.func49 (m := 20) Try.ntmps49 rfl rfl (l := [.pointer (some ⟨b, 0, none⟩), .int .i64 1, undef, undef, undef, undef, undef, undef, undef, undef, undef, undef, undef, undef, undef, undef, undef, undef, undef, undef, undef, undef]) rfl ?_
  refine c_seq ?_
  refine c_region ?_
  refine s_val (v := (.bool false)) rfl (r_assign rfl) (rfl : _ = [_, _, _, _, _, _, _, _, _, _, _, _, _, _, _, _, _, _, _, _, _, _]) ?_
  refine s_nil rfl ?_
  refine x_seq ?_
  refine c_seq ?_
  refine c_seq ?_
  refine c_region ?_
  refine s_val (v := (.pointer (some ⟨b, 0, none⟩))) rfl (r_move rfl) (rfl : _ = [_, _, _, _, _, _, _, _, _, _, _, _, _, _, _, _, _, _, _, _, _, _]) ?_
  refine s_val (v := (.int .i64 1)) rfl (r_move rfl) (rfl : _ = [_, _, _, _, _, _, _, _, _, _, _, _, _, _, _, _, _, _, _, _, _, _]) ?_
  refine s_call 81 _ _ (by kernel_rfl) rfl rfl (is_c1 hV) ?_
  rintro _ w1 ⟨rfl, hb2⟩
  refine norm (rfl : _ = [_, _, _, _, _, _, _, _, _, _, _, _, _, _, _, _, _, _, _, _, _, _]) ?_
  have hc3 := Chg.of_bel hb2
  have hs4 := hc3.size
  replace hb := hb.chg hc3 (by omega)
  replace hV := hV.chg hc3 (by omega)
  refine s_val rfl (r_not rfl rfl) (rfl : _ = [_, _, _, _, _, _, _, _, _, _, _, _, _, _, _, _, _, _, _, _, _, _]) ?_
  refine s_val (v := (.bool false)) rfl (r_move rfl) (rfl : _ = [_, _, _, _, _, _, _, _, _, _, _, _, _, _, _, _, _, _, _, _, _, _]) ?_
  refine s_val (v := (.pointer (some ⟨b, 0, none⟩))) (wan_t (dj := 9) rfl rfl) (r_move rfl) (rfl : _ = [_, _, _, _, _, _, _, _, _, _, _, _, _, _, _, _, _, _, _, _, _, _]) ?_
  refine s_val (v := (.int .i64 1)) (wan_t (dj := 9) rfl rfl) (r_move rfl) (rfl : _ = [_, _, _, _, _, _, _, _, _, _, _, _, _, _, _, _, _, _, _, _, _, _]) ?_
  refine s_val (v := (.pointer (some ⟨b, 0, none⟩))) (wan_t (dj := 9) rfl rfl) (r_nilck rfl) (rfl : _ = [_, _, _, _, _, _, _, _, _, _, _, _, _, _, _, _, _, _, _, _, _, _]) ?_
  refine s_val (v := (.pointer (some ⟨b, 0, none⟩))) (wan_t (dj := 9) rfl rfl) (r_field (k := 0) (o := 0) (by kernel_rfl) rfl) (rfl : _ = [_, _, _, _, _, _, _, _, _, _, _, _, _, _, _, _, _, _, _, _, _, _]) ?_
  refine s_val (v := (.pointer (some ⟨b, 1, none⟩))) (wan_t (dj := 9) rfl rfl) (r_indexA (sz := 1) (n := 7) (o := 0) (j := 1) (by kernel_rfl) rfl rfl (by decide) (by decide)) (rfl : _ = [_, _, _, _, _, _, _, _, _, _, _, _, _, _, _, _, _, _, _, _, _, _]) ?_
  refine s_val (v := (.bool false)) (wan_t (dj := 9) rfl rfl) (r_load rfl (Ld.one Try.underlying4 rfl (hV.cell (i := 1) rfl))) (rfl : _ = [_, _, _, _, _, _, _, _, _, _, _, _, _, _, _, _, _, _, _, _, _, _]) ?_
  refine s_val (v := (.bool false)) rfl (r_pick rfl rfl) (rfl : _ = [_, _, _, _, _, _, _, _, _, _, _, _, _, _, _, _, _, _, _, _, _, _]) ?_
  refine s_nil rfl ?_
  refine x_seq ?_
  refine c_cond rfl (fun hh => by cases hh) (fun _ => ?_)
  refine c_skip ?_
  refine x_seq ?_
  refine c_seq ?_
  refine c_region ?_
  refine s_val (v := (.pointer (some ⟨b, 0, none⟩))) rfl (r_move rfl) (rfl : _ = [_, _, _, _, _, _, _, _, _, _, _, _, _, _, _, _, _, _, _, _, _, _]) ?_
  refine s_val (v := (.int .i64 1)) rfl (r_move rfl) (rfl : _ = [_, _, _, _, _, _, _, _, _, _, _, _, _, _, _, _, _, _, _, _, _, _]) ?_
  refine s_val (v := (.pointer (some ⟨b, 0, none⟩))) rfl (r_nilck rfl) (rfl : _ = [_, _, _, _, _, _, _, _, _, _, _, _, _, _, _, _, _, _, _, _, _, _]) ?_
  refine s_val (v := (.pointer (some ⟨b, 0, none⟩))) rfl (r_field (k := 0) (o := 0) (by kernel_rfl) rfl) (rfl : _ = [_, _, _, _, _, _, _, _, _, _, _, _, _, _, _, _, _, _, _, _, _, _]) ?_
  refine s_val (v := (.pointer (some ⟨b, 1, none⟩))) rfl (r_indexA (sz := 1) (n := 7) (o := 0) (j := 1) (by kernel_rfl) rfl rfl (by decide) (by decide)) (rfl : _ = [_, _, _, _, _, _, _, _, _, _, _, _, _, _, _, _, _, _, _, _, _, _]) ?_
  refine s_store (b := b) (o := 1) (vs := [.bool true]) (cs := [.bool false, .bool false, .bool false, .bool false, .bool false, .bool false, .bool false, .int .i64 3]) (cs' := [.bool false, .bool true, .bool false, .bool false, .bool false, .bool false, .bool false, .int .i64 3]) 4 _ _ rfl (v := (.bool true)) rfl rfl rfl hV (by kernel_rfl) ⟨rfl, trivial⟩ (by simp) rfl ?_
  intro w5 hB6 hc7 hz8
  have hs9 := hc7.size
  replace hb := hb.chg hc7 (by omega)
  refine s_nil rfl ?_
  refine x_seq ?_
  refine c_seq ?_
  refine c_region ?_
  refine s_val (v := (.bool true)) rfl (r_assign rfl) (rfl : _ = [_, _, _, _, _, _, _, _, _, _, _, _, _, _, _, _, _, _, _, _, _, _]) ?_
  refine s_nil rfl ?_
  refine x_seq ?_
  refine c_ret ?_
  refine post_ret rfl rfl ?_
  exact ⟨rfl, hB6, hb⟩

theorem add_c1ft {w : World} {b : Nat} (hV : Bx w b [.bool false, .bool true, .bool false, .bool false, .bool false, .bool false, .bool false, .int .i64 3] 113) :
    CallsV Try.prog 49 #[(.pointer (some ⟨b, 0, none⟩)), (.int .i64 1)] w (fun r w' => r = .bool false ∧ Bx w' b [.bool false, .bool true, .bool false, .bool false, .bool false, .bool false, .bool false, .int .i64 3] 113 ∧ Chg b (b + 1) w w') := by
  have hb := Bel.refl w
  have hb : Chg b (b + 1) w w := Chg.refl _ _ _
  refine callsV_of Try.func49 (m := 20) Try.ntmps49 rfl rfl (l := [.pointer (some ⟨b, 0, none⟩), .int .i64 1, undef, undef, undef, undef, undef, undef, undef, undef, undef, undef, undef, undef, undef, undef, undef, undef, undef, undef, undef, undef]) rfl ?_
  refine c_seq ?_
  refine c_region ?_
  refine s_val (v := (.bool false)) rfl (r_assign rfl) (rfl : _ = [_, _, _, _, _, _, _, _, _, _, _, _, _, _, _, _, _, _, _, _, _, _]) ?_
  refine s_nil rfl ?_
  refine x_seq ?_
  refine c_seq ?_
  refine c_seq ?_
  refine c_region ?_
  refine s_val (v := (.pointer (some ⟨b, 0, none⟩))) rfl (r_move rfl) (rfl : _ = [_, _, _, _, _, _, _, _, _, _, _, _, _, _, _, _, _, _, _, _, _, _]) ?_
  refine s_val (v := (.int .i64 1)) rfl (r_move rfl) (rfl : _ = [_, _, _, _, _, _, _, _, _, _, _, _, _, _, _, _, _, _, _, _, _, _]) ?_
  refine s_call 81 _ _ (by kernel_rfl) rfl rfl (is_c1 hV) ?_
  rintro _ w1 ⟨rfl, hb2⟩
  refine norm (rfl : _ = [_, _, _, _, _, _, _, _, _, _, _, _, _, _, _, _, _, _, _, _, _, _]) ?_
  have hc3 := Chg.of_bel hb2
  have hs4 := hc3.size
  replace hb := hb.chg hc3 (by omega)
  replace hV := hV.chg hc3 (by omega)
  refine s_val rfl (r_not rfl rfl) (rfl : _ = [_, _, _, _, _, _, _, _, _, _, _, _, _, _, _, _, _, _, _, _, _, _]) ?_
  refine s_val (v := (.bool false)) rfl (r_move rfl) (rfl : _ = [_, _, _, _, _, _, _, _, _, _, _, _, _, _, _, _, _, _, _, _, _, _]) ?_
  refine s_val (v := (.pointer (some ⟨b, 0, none⟩))) (wan_t (dj := 9) rfl rfl) (r_move rfl) (rfl : _ = [_, _, _, _, _, _, _, _, _, _, _, _, _, _, _, _, _, _, _, _, _, _]) ?_
  refine s_val (v := (.int .i64 1)) (wan_t (dj := 9) rfl rfl) (r_move rfl) (rfl : _ = [_, _, _, _, _, _, _, _, _, _, _, _, _, _, _, _, _, _, _, _, _, _]) ?_
  refine s_val (v := (.pointer (some ⟨b, 0, none⟩))) (wan_t (dj := 9) rfl rfl) (r_nilck rfl) (rfl : _ = [_, _, _, _, _, _, _, _, _, _, _, _, _, _, _, _, _, _, _, _, _, _]) ?_
  refine s_val (v := (.pointer (some ⟨b, 0, none⟩))) (wan_t (dj := 9) rfl rfl) (r_field (k := 0) (o := 0) (by kernel_rfl) rfl) (rfl : _ = [_, _, _, _, _, _, _, _, _, _, _, _, _, _, _, _, _, _, _, _, _, _]) ?_
  refine s_val (v := (.pointer (some ⟨b, 1, none⟩))) (wan_t (dj := 9) rfl rfl) (r_indexA (sz := 1) (n := 7) (o := 0) (j := 1) (by kernel_rfl) rfl rfl (by decide) (by decide)) (rfl : _ = [_, _, _, _, _, _, _, _, _, _, _, _, _, _, _, _, _, _, _, _, _, _]) ?_
  refine s_val (v := (.bool true)) (wan_t (dj := 9) rfl rfl) (r_load rfl (Ld.one Try.underlying4 rfl (hV.cell (i := 1) rfl))) (rfl : _ = [_, _, _, _, _, _, _, _, _, _, _, _, _, _, _, _, _, _, _, _, _, _]) ?_
  refine s_val (v := (.bool true)) rfl (r_pick rfl rfl) (rfl : _ = [_, _, _, _, _, _, _, _, _, _, _, _, _, _, _, _, _, _, _, _, _, _]) ?_
  refine s_nil rfl ?_
  refine x_seq ?_
  refine c_cond rfl (fun _ => ?_) (fun hh => by cases hh)
  refine c_seq ?_
  refine c_region ?_
  refine s_val (v := (.bool false)) rfl (r_assign rfl) (rfl : _ = [_, _, _, _, _, _, _, _, _, _, _, _, _, _, _, _, _, _, _, _, _, _]) ?_
  refine s_nil rfl ?_
  refine x_seq ?_
  refine c_ret ?_
  refine x_then_ret ?_
  refine post_ret rfl rfl ?_
  exact ⟨rfl, hV, hb⟩

theorem add_c0ft {w : World} {b : Nat} (hV : Bx w b [.bool false, .bool true, .bool false, .bool false, .bool false, .bool false, .bool false, .int .i64 3] 113) :
    CallsV Try.prog 49 #[(.pointer (some ⟨b, 0, none⟩)), (.int .i64 0)] w (fun r w' => r = .bool true ∧ Bx w' b [.bool true, .bool true, .bool false, .bool false, .bool false, .bool false, .bool false, .int .i64 3] 113 ∧ Chg b (b + 1) w w') := by
  have hb := Bel.refl w
  have hb : Chg b (b + 1) w w := Chg.refl _ _ _
  refine callsV_of Try.func49 (m := 20) Try.ntmps49 rfl rfl (l := [.pointer (some ⟨b, 0, none⟩), .int .i64 0, undef, undef, undef, undef, undef, undef, undef, undef, undef, undef, undef, undef, undef, undef, undef, undef, undef, undef, undef, undef]) rfl ?_
  refine c_seq ?_
  refine c_region ?_
  refine s_val (v := (.bool false)) rfl (r_assign rfl) (rfl : _ = [_, _, _, _, _, _, _, _, _, _, _, _, _, _, _, _, _, _, _, _, _, _]) ?_
  refine s_nil rfl ?_
  refine x_seq ?_
  refine c_seq ?_
  refine c_seq ?_
  refine c_region ?_
  refine s_val (v := (.pointer (some ⟨b, 0, none⟩))) rfl (r_move rfl) (rfl : _ = [_, _, _, _, _, _, _, _, _, _, _, _, _, _, _, _, _, _, _, _, _, _]) ?_
  refine s_val (v := (.int .i64 0)) rfl (r_move rfl) (rfl : _ = [_, _, _, _, _, _, _, _, _, _, _, _, _, _, _, _, _, _, _, _, _, _]) ?_
  refine s_call 81 _ _ (by kernel_rfl) rfl rfl (is_c0 hV) ?_
  rintro _ w1 ⟨rfl, hb2⟩
  refine norm (rfl : _ = [_, _, _, _, _, _, _, _, _, _, _, _, _, _, _, _, _, _, _, _, _, _]) ?_
  have hc3 := Chg.of_bel hb2
  have hs4 := hc3.size
  replace hb := hb.chg hc3 (by omega)
  replace hV := hV.chg hc3 (by omega)
  refine s_val rfl (r_not rfl rfl) (rfl : _ = [_, _, _, _, _, _, _, _, _, _, _, _, _, _, _, _, _, _, _, _, _, _]) ?_
  refine s_val (v := (.bool false)) rfl (r_move rfl) (rfl : _ = [_, _, _, _, _, _, _, _, _, _, _, _, _, _, _, _, _, _, _, _, _, _]) ?_
  refine s_val (v := (.pointer (some ⟨b, 0, none⟩))) (wan_t (dj := 9) rfl rfl) (r_move rfl) (rfl : _ = [_, _, _, _, _, _, _, _, _, _, _, _, _, _, _, _, _, _, _, _, _, _]) ?_
  refine s_val (v := (.int .i64 0)) (wan_t (dj := 9) rfl rfl) (r_move rfl) (rfl : _ = [_, _, _, _, _, _, _, _, _, _, _, _, _, _, _, _, _, _, _, _, _, _]) ?_
  refine s_val (v := (.pointer (some ⟨b, 0, none⟩))) (wan_t (dj := 9) rfl rfl) (r_nilck rfl) (rfl : _ = [_, _, _, _, _, _, _, _, _, _, _, _, _, _, _, _, _, _, _, _, _, _]) ?_
  refine s_val (v := (.pointer (some ⟨b, 0, none⟩))) (wan_t (dj := 9) rfl rfl) (r_field (k := 0) (o := 0) (by kernel_rfl) rfl) (rfl : _ = [_, _, _, _, _, _, _, _, _, _, _, _, _, _, _, _, _, _, _, _, _, _]) ?_
  refine s_val (v := (.pointer (some ⟨b, 0, none⟩))) (wan_t (dj := 9) rfl rfl) (r_indexA (sz := 1) (n := 7) (o := 0) (j := 0) (by kernel_rfl) rfl rfl (by decide) (by decide)) (rfl : _ = [_, _, _, _, _, _, _, _, _, _, _, _, _, _, _, _, _, _, _, _, _, _]) ?_
  refine s_val (v := (.bool false)) (wan_t (dj := 9) rfl rfl) (r_load rfl (Ld.one Try.underlying4 rfl (hV.cell (i := 0) rfl))) (rfl : _ = [_, _, _, _, _, _, _, _, _, _, _, _, _, _, _, _, _, _, _, _, _, _]) ?_
  refine s_val (v := (.bool false)) rfl (r_pick rfl rfl) (rfl : _ = [_, _, _, _, _, _, _, _, _, _, _, _, _, _, _, _, _, _, _, _, _, _]) ?_
  refine s_nil rfl ?_
  refine x_seq ?_
  refine c_cond rfl (fun hh => by cases hh) (fun _ => ?_)
  refine c_skip ?_
  refine x_seq ?_
  refine c_seq ?_
  refine c_region ?_
  refine s_val (v := (.pointer (some ⟨b, 0, none⟩))) rfl (r_move rfl) (rfl : _ = [_, _, _, _, _, _, _, _, _, _, _, _, _, _, _, _, _, _, _, _, _, _]) ?_
  refine s_val (v := (.int .i64 0)) rfl (r_move rfl) (rfl : _ = [_, _, _, _, _, _, _, _, _, _, _, _, _, _, _, _, _, _, _, _, _, _]) ?_
  refine s_val (v := (.pointer (some ⟨b, 0, none⟩))) rfl (r_nilck rfl) (rfl : _ = [_, _, _, _, _, _, _, _, _, _, _, _, _, _, _, _, _, _, _, _, _, _]) ?_
  refine s_val (v := (.pointer (some ⟨b, 0, none⟩))) rfl (r_field (k := 0) (o := 0) (by kernel_rfl) rfl) (rfl : _ = [_, _, _, _, _, _, _, _, _, _, _, _, _, _, _, _, _, _, _, _, _, _]) ?_
  refine s_val (v := (.pointer (some ⟨b, 0, none⟩))) rfl (r_indexA (sz := 1) (n := 7) (o := 0) (j := 0) (by kernel_rfl) rfl rfl (by decide) (by decide)) (rfl : _ = [_, _, _, _, _, _, _, _, _, _, _, _, _, _, _, _, _, _, _, _, _, _]) ?_
  refine s_store (b := b) (o := 0) (vs := [.bool true]) (cs := [.bool false, .bool true, .bool false, .bool false, .bool false, .bool false, .bool false, .int .i64 3]) (cs' := [.bool true, .bool true, .bool false, .bool false, .bool false, .bool false, .bool false, .int .i64 3]) 4 _ _ rfl (v := (.bool true)) rfl rfl rfl hV (by kernel_rfl) ⟨rfl, trivial⟩ (by simp) rfl ?_
  intro w5 hB6 hc7 hz8
  have hs9 := hc7.size
  replace hb := hb.chg hc7 (by omega)
  refine s_nil rfl ?_
  refine x_seq ?_
  refine c_seq ?_
  refine c_region ?_
  refine s_val (v := (.bool true)) rfl (r_assign rfl) (rfl : _ = [_, _, _, _, _, _, _, _, _, _, _, _, _, _, _, _, _, _, _, _, _, _]) ?_
  refine s_nil rfl ?_
  refine x_seq ?_
  refine c_ret ?_
  refine post_ret rfl rfl ?_
  exact ⟨rfl, hB6, hb⟩

end Go.Proofs.Ytailhdcackkegaa.Wd

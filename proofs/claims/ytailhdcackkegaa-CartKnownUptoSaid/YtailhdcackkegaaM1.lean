/- keys of maps: dots, articles. -/
import Derived.Test.YtailhdcackkegaaMa
import Derived.Test.YtailhdcackkegaaQ1
import Derived.Test.YtailhdcackkegaaProg
namespace Go.Proofs.Ytailhdcackkegaa.Wd
open Go.RowKit
set_option linter.unusedVariables false
set_option linter.unusedSimpArgs false

theorem keyOk_Dot : KeyOk Try.prog 37 (fun d : Dot => Value.agg #[.int .i64 d.o, .int .i64 d.s]) where
  find := findKey_ask Try.underlying37 (fun a b => rfl) fun a b w => by
    have h := eqDot_run (a.o) (b.o) (a.s) (b.s) w
    unfold Op.equal Op.maxDepth
    rw [h]
    exact congrArg (fun c => Result.ok c w) (by rw [Bool.eq_iff_iff, eqDot_iff, decide_eq_true_iff])
  check := fun e k w => check_agg2 (n := 9999) (a := .int .i64 k.o) (b := .int .i64 k.s) Try.underlying37 (by rfl) (by rfl) (by kernel_rfl) (by kernel_rfl) (check_int Try.underlying3 e 9998 _ _ w) (check_int Try.underlying3 e 9998 _ _ w)
  bits := fun k => bits_agg2 9999 (bits_int 9998 _ _) (bits_int 9998 _ _)

theorem eqArt_run (x0 y0 : ByteArray) (x1 y1 : ByteArray) (w : World) : (Op.equalIn 10000 120 (.agg #[.string x0, .string x1]) (.agg #[.string y0, .string y1])).run Try.prog w = .ok ((x0.toList == y0.toList) && ((x1.toList == y1.toList) && true)) w := by
  refine eqf_of (d := 9999) Try.underlying120 (by kernel_rfl) ?_
  refine eqf_cons (by rfl) (by kernel_rfl) (by kernel_rfl) (eqs_run 9998 Try.underlying9 w) ?_
  refine eqf_cons (by rfl) (by kernel_rfl) (by kernel_rfl) (eqs_run 9998 Try.underlying9 w) ?_
  exact eqf_nil
theorem eqArt_iff {x0 y0 : ByteArray} {x1 y1 : ByteArray} : ((x0.toList == y0.toList) && ((x1.toList == y1.toList) && true)) = true ↔ (⟨x0, x1⟩ : Art) = ⟨y0, y1⟩ := by
  simp only [Bool.and_true, Bool.and_eq_true, beq_iff_eq, Art.mk.injEq, toList_eq]
theorem neArt_iff {x0 y0 : ByteArray} {x1 y1 : ByteArray} : (!((x0.toList == y0.toList) && ((x1.toList == y1.toList) && true))) = true ↔ (⟨x0, x1⟩ : Art) ≠ ⟨y0, y1⟩ := not_iff eqArt_iff

theorem keyOk_Art : KeyOk Try.prog 120 (fun d : Art => Value.agg #[.string d.cart, .string d.sku]) where
  find := findKey_ask Try.underlying120 (fun a b => rfl) fun a b w => by
    have h := eqArt_run (a.cart) (b.cart) (a.sku) (b.sku) w
    unfold Op.equal Op.maxDepth
    rw [h]
    exact congrArg (fun c => Result.ok c w) (by rw [Bool.eq_iff_iff, eqArt_iff, decide_eq_true_iff])
  check := fun e k w => check_agg2 (n := 9999) (a := .string k.cart) (b := .string k.sku) Try.underlying120 (by rfl) (by rfl) (by kernel_rfl) (by kernel_rfl) (check_str Try.underlying9 e 9998 _ w) (check_str Try.underlying9 e 9998 _ w)
  bits := fun k => bits_agg2 9999 (bits_str 9998 _) (bits_str 9998 _)

end Go.Proofs.Ytailhdcackkegaa.Wd

/- equality of structs of plain fields. -/
import Derived.Test.YtailhdcackkegaaEa
import Derived.Test.YtailhdcackkegaaProg
namespace Go.Proofs.Ytailhdcackkegaa.Wd
open Go.RowKit
set_option linter.unusedVariables false
set_option linter.unusedSimpArgs false

theorem eqDot_run (x0 y0 : Int) (x1 y1 : Int) (w : World) : (Op.equalIn 10000 37 (.agg #[.int .i64 x0, .int .i64 x1]) (.agg #[.int .i64 y0, .int .i64 y1])).run Try.prog w = .ok ((x0 == y0) && ((x1 == y1) && true)) w := by
  refine eqf_of (d := 9999) Try.underlying37 (by kernel_rfl) ?_
  refine eqf_cons (by rfl) (by kernel_rfl) (by kernel_rfl) (eqi_run 9998 Try.underlying3 w) ?_
  refine eqf_cons (by rfl) (by kernel_rfl) (by kernel_rfl) (eqi_run 9998 Try.underlying3 w) ?_
  exact eqf_nil
theorem eqDot_iff {x0 y0 : Int} {x1 y1 : Int} : ((x0 == y0) && ((x1 == y1) && true)) = true ↔ (⟨x0, x1⟩ : Dot) = ⟨y0, y1⟩ := by
  simp only [Bool.and_true, Bool.and_eq_true, beq_iff_eq, Dot.mk.injEq]
theorem neDot_iff {x0 y0 : Int} {x1 y1 : Int} : (!((x0 == y0) && ((x1 == y1) && true))) = true ↔ (⟨x0, x1⟩ : Dot) ≠ ⟨y0, y1⟩ := not_iff eqDot_iff

theorem eqLn_run (x0 y0 : ByteArray) (x1 y1 : Int) (w : World) : (Op.equalIn 10000 86 (.agg #[.string x0, .int .i64 x1]) (.agg #[.string y0, .int .i64 y1])).run Try.prog w = .ok ((x0.toList == y0.toList) && ((x1 == y1) && true)) w := by
  refine eqf_of (d := 9999) Try.underlying86 (by kernel_rfl) ?_
  refine eqf_cons (by rfl) (by kernel_rfl) (by kernel_rfl) (eqs_run 9998 Try.underlying9 w) ?_
  refine eqf_cons (by rfl) (by kernel_rfl) (by kernel_rfl) (eqi_run 9998 Try.underlying3 w) ?_
  exact eqf_nil
theorem eqLn_iff {x0 y0 : ByteArray} {x1 y1 : Int} : ((x0.toList == y0.toList) && ((x1 == y1) && true)) = true ↔ (⟨x0, x1⟩ : Ln) = ⟨y0, y1⟩ := by
  simp only [Bool.and_true, Bool.and_eq_true, beq_iff_eq, Ln.mk.injEq, toList_eq]
theorem neLn_iff {x0 y0 : ByteArray} {x1 y1 : Int} : (!((x0.toList == y0.toList) && ((x1 == y1) && true))) = true ↔ (⟨x0, x1⟩ : Ln) ≠ ⟨y0, y1⟩ := not_iff eqLn_iff

end Go.Proofs.Ytailhdcackkegaa.Wd

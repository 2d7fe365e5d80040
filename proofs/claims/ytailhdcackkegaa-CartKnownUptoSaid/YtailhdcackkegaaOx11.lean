/- Readings of the program's types. -/
import Derived.Test.YtailhdcackkegaaOp
import Derived.Test.YtailhdcackkegaaProg
import Derived.KernelRfl
namespace Go.Proofs.Ytailhdcackkegaa.Wd
open Go.RowKit
theorem opens_23 : Opens Try.prog 23 kInts wfInts := Opens.sl _ Try.underlying23 (by kernel_rfl) (Opens.int Try.underlying3)
theorem opens_37 : Opens Try.prog 37 kDot wfDot := (Opens.struct Try.underlying37 (by kernel_rfl) (OpensF.cons rfl (by kernel_rfl) (Opens.int Try.underlying3) (OpensF.one rfl (by kernel_rfl) (Opens.int Try.underlying3)))).via (fun d : Dot => (d.o, d.s)) (fun x => (⟨x.1, x.2⟩ : Dot)) (fun _ => rfl)
theorem opens_39 : Opens Try.prog 39 kEv wfEv := (Opens.struct Try.underlying39 (by kernel_rfl) (OpensF.cons rfl (by kernel_rfl) opens_37 (OpensF.cons rfl (by kernel_rfl) opens_23 (OpensF.cons rfl (by kernel_rfl) (Opens.str Try.underlying9) (OpensF.cons rfl (by kernel_rfl) (Opens.int Try.underlying3) (OpensF.cons rfl (by kernel_rfl) (Opens.str Try.underlying9) (OpensF.cons rfl (by kernel_rfl) (Opens.int Try.underlying3) (OpensF.one rfl (by kernel_rfl) (Opens.bool Try.underlying4))))))))).via (fun e : Ev => (e.dot, e.deps, e.cart, e.epoch, e.sku, e.qty, e.clears)) (fun x => (⟨x.1, x.2.1, x.2.2.1, x.2.2.2.1, x.2.2.2.2.1, x.2.2.2.2.2.1, x.2.2.2.2.2.2⟩ : Ev)) (fun _ => rfl)
theorem opens_34 : Opens Try.prog 34 (kEv.sl kEv_pos) (fun xs => xs.length ≤ bLim ∧ ∀ x ∈ xs, wfEv x) := Opens.sl _ Try.underlying34 (by kernel_rfl) opens_39
end Go.Proofs.Ytailhdcackkegaa.Wd

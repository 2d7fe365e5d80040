/- Readings of the program's types. -/
import Derived.Test.YtailhdcackkegaaOp
import Derived.Test.YtailhdcackkegaaProg
import Derived.KernelRfl
namespace Go.Proofs.Ytailhdcackkegaa.Wd
open Go.RowKit
theorem opens_23 : Opens Try.prog 23 kInts wfInts := Opens.sl _ Try.underlying23 (by kernel_rfl) (Opens.int Try.underlying3)
theorem opens_25 : Opens Try.prog 25 kSeal wfSeal := (Opens.struct Try.underlying25 (by kernel_rfl) (OpensF.cons rfl (by kernel_rfl) (Opens.str Try.underlying9) (OpensF.cons rfl (by kernel_rfl) (Opens.str Try.underlying9) (OpensF.cons rfl (by kernel_rfl) (Opens.int Try.underlying3) (OpensF.one rfl (by kernel_rfl) opens_23))))).via (fun s : Seal => (s.token, s.cart, s.epoch, s.cut)) (fun x => (⟨x.1, x.2.1, x.2.2.1, x.2.2.2⟩ : Seal)) (fun _ => rfl)
theorem opens_27 : Opens Try.prog 27 kEnt wfEnt := (Opens.struct Try.underlying27 (by kernel_rfl) (OpensF.cons rfl (by kernel_rfl) (Opens.bool Try.underlying4) (OpensF.one rfl (by kernel_rfl) opens_25))).via (fun e : Ent => (e.noop, e.sl)) (fun x => (⟨x.1, x.2⟩ : Ent)) (fun _ => rfl)
theorem opens_73 : Opens Try.prog 73 kBal wfBal := (Opens.struct Try.underlying73 (by kernel_rfl) (OpensF.cons rfl (by kernel_rfl) (Opens.int Try.underlying3) (OpensF.one rfl (by kernel_rfl) (Opens.int Try.underlying3)))).via (fun b : Bal => (b.r, b.n)) (fun x => (⟨x.1, x.2⟩ : Bal)) (fun _ => rfl)
theorem opens_75 : Opens Try.prog 75 kVot wfVot := (Opens.struct Try.underlying75 (by kernel_rfl) (OpensF.cons rfl (by kernel_rfl) (Opens.int Try.underlying3) (OpensF.cons rfl (by kernel_rfl) opens_73 (OpensF.one rfl (by kernel_rfl) opens_27)))).via (fun v : Vot => (v.slot, v.bal, v.ent)) (fun x => (⟨x.1, x.2.1, x.2.2⟩ : Vot)) (fun _ => rfl)
theorem opens_22 : Opens Try.prog 22 (kVot.sl kVot_pos) (fun xs => xs.length ≤ bLim ∧ ∀ x ∈ xs, wfVot x) := Opens.sl _ Try.underlying22 (by kernel_rfl) opens_75
end Go.Proofs.Ytailhdcackkegaa.Wd

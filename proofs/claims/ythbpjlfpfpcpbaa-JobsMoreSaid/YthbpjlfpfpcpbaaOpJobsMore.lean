/- The parameters of JobsMore, opened; its one pure statement. No condition. -/
import Derived.Test.YthbpjlfpfpcpbaaQ7
import Derived.Test.YthbpjlfpfpcpbaaOpen
import Derived.KernelRfl
namespace Go.Proofs.Ythbpjlfpfpcpbaa.P
open Go.RowKit Go.WideShapes Go.Proofs.YthbpjlfpfpcpbaaW.PrintWords Go.Proofs.YthbpjlfpfpcpbaaW.PrintLast Go.Proofs.YthbpjlfpfpcpbaaW.PrintMore
set_option linter.unusedVariables false
set_option linter.unusedSimpArgs false

namespace JobsMore
def wf24 (x : S24) : Prop := (Lit.int .i64 x.f0).wf = true ∧ (Lit.int .u8 x.f1).wf = true
theorem opens24 : Opens Try.prog k24 24 wf24 := Opens.struct (d := k24) (wf := wf24) Try.underlying24 (OpensFs.iso (wf := fun p => (Lit.int .i64 p.1).wf = true ∧ (Lit.int .u8 p.2).wf = true) (OpensFs.cons (Opens.int Try.underlying3) rfl (by kernel_rfl) (OpensFs.one (Opens.int Try.underlying5) rfl (by kernel_rfl))) (fun x : S24 => (x.f0, x.f1)) (fun p => ⟨p.1, p.2⟩) (fun _ => rfl)) (by kernel_rfl)
def wf26 (x : S26) : Prop := wf24 x.f0 ∧ True
theorem opens26 : Opens Try.prog k26 26 wf26 := Opens.struct (d := k26) (wf := wf26) Try.underlying26 (OpensFs.iso (wf := fun p => wf24 p.1 ∧ True) (OpensFs.cons opens24 rfl (by kernel_rfl) (OpensFs.one (Opens.bool Try.underlying4) rfl (by kernel_rfl))) (fun x : S26 => (x.f0, x.f1)) (fun p => ⟨p.1, p.2⟩) (fun _ => rfl)) (by kernel_rfl)
end JobsMore
open JobsMore
def JobsMore.Pure : Prop := ∀ (x0 : List (S26)) (x1 : S26), (x0.length ≤ maxLen ∧ ∀ z2 ∈ x0, wf26 z2) → wf26 x1 → ∃ k, clepsydralaw20_JobsMore.f k x0 x1.f0.f0 x1.f0.f1 x1.f1 = some true
end Go.Proofs.Ythbpjlfpfpcpbaa.P

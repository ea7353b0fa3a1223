/- The parameters of JobsTypes, opened; its one pure statement. No condition. -/
import Derived.Test.YthbpjlfpfpcpbaaQ8
import Derived.Test.YthbpjlfpfpcpbaaOpen
import Derived.KernelRfl
namespace Go.Proofs.Ythbpjlfpfpcpbaa.P
open Go.RowKit Go.WideShapes Go.Proofs.YthbpjlfpfpcpbaaW.PrintWords Go.Proofs.YthbpjlfpfpcpbaaW.PrintLast Go.Proofs.YthbpjlfpfpcpbaaW.PrintMore
set_option linter.unusedVariables false
set_option linter.unusedSimpArgs false

namespace JobsTypes
def wf24 (x : S24) : Prop := (Lit.int .i64 x.f0).wf = true ∧ (Lit.int .u8 x.f1).wf = true
theorem opens24 : Opens Try.prog k24 24 wf24 := Opens.struct (d := k24) (wf := wf24) Try.underlying24 (OpensFs.iso (wf := fun p => (Lit.int .i64 p.1).wf = true ∧ (Lit.int .u8 p.2).wf = true) (OpensFs.cons (Opens.int Try.underlying3) rfl (by kernel_rfl) (OpensFs.one (Opens.int Try.underlying5) rfl (by kernel_rfl))) (fun x : S24 => (x.f0, x.f1)) (fun p => ⟨p.1, p.2⟩) (fun _ => rfl)) (by kernel_rfl)
end JobsTypes
open JobsTypes
def JobsTypes.Pure : Prop := ∀ (x0 : S24) (x1 : S24) (x2 : Int), wf24 x0 → wf24 x1 → (Lit.int .u8 x2).wf = true → ∃ k, clepsydralaw20_JobsTypes.f k x0.f0 x0.f1 x1.f0 x1.f1 x2 = some true
end Go.Proofs.Ythbpjlfpfpcpbaa.P

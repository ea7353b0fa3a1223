/- clepsydralaw23.plain: the rows After and Before of a graph. No condition. -/
import Derived.Test.YtccngacadolgfaaVictim
import Derived.Test.YtccngacadolgfaaWorksC
import Derived.Test.YtccngacadolgfaaQ1
import Derived.Test.YtccngacadolgfaaQ5
import Derived.Test.YtccngacadolgfaaQ6
set_option linter.unusedVariables false
set_option linter.unusedSimpArgs false
namespace Go.Proofs.Ytccngacadolgfaa.P
open Go.RowKit Go.Proofs.YtccngacadolgfaaW.PrintWords Go.Proofs.YtccngacadolgfaaW.PrintLast Go.Proofs.YtccngacadolgfaaW.PrintMore

set_option maxRecDepth 100000 in
set_option maxHeartbeats 4000000 in
theorem plain_calls (gv : Array Value) (A4 : Option Addr) (c4 : Nat) (l4 : List (List Int)) (A5 : Option Addr) (c5 : Nat) (l5 : List (List Int)) (w : World) (hgv : IsG gv A4 c4 l4 A5 c5 l5) :
    Calls Try.prog 8 #[.agg gv] w fun e w' => e = .returned (.agg #[.slice A4 l4.length c4, .slice A5 l5.length c5]) ∧ Below w.heap.size w w' := by
  obtain ⟨A0, n0, c0, A1, n1, c1, A2, n2, c2, A3, n3, c3, A6, n6, c6, A7, n7, c7, A8, n8, c8, A9, n9, c9, rfl⟩ := hgv
  have hu24 := Try.underlying24
  have hu30 := Try.underlying30
  go_enter Try.func8, Try.ntmps8
  go_wp2
  refine bodyPost_ret (results_cell_row rfl _ _ (w.heap.size + 1) 30 #[.slice A4 l4.length c4, .slice A5 l5.length c5] (0, 0) _ rfl (blk_new' _ _ _ _ (by simp only [World.size_alloc])) hu30 rfl (by kernel_rfl)) rfl ?_
  exact ⟨rfl, below_alloc (below_alloc (Below.refl _ _) _) _⟩
end Go.Proofs.Ytccngacadolgfaa.P

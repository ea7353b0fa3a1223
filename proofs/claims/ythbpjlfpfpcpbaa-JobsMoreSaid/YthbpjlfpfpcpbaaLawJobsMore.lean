/- The row of JobsMore, out of its pure statement and its walk. No condition. -/
import Derived.Test.YthbpjlfpfpcpbaaRows
import Derived.Test.YthbpjlfpfpcpbaaOpJobsMore
import Derived.Test.YthbpjlfpfpcpbaaPureJobsMore
import Derived.WalkKit
import Derived.ProofKit
import Derived.OpenShut
import Derived.ShutString
import Derived.ChangeOld
import Derived.Below
import Derived.SizedLaws
namespace Go.Proofs.Ythbpjlfpfpcpbaa.jobsMore
open Go.ChangeShapes Go.WideShapes Go.ChangeAt Go.RowKit Go.Proofs.Ythbpjlfpfpcpbaa.P Go.Proofs.YthbpjlfpfpcpbaaW.PrintWords Go.Proofs.YthbpjlfpfpcpbaaW.PrintLast Go.Proofs.YthbpjlfpfpcpbaaW.PrintMore
open Go.Proofs.Ythbpjlfpfpcpbaa.P.JobsMore
open Go.ChangeMaps (open_string shut_string)
set_option linter.unusedVariables false
theorem own : ownKnob Try.prog.godebug = none := by kernel_rfl
theorem laidOut : laidOutB Try.prog = true := by kernel_rfl
theorem drawn_below {w w' : World} (h : ∃ n, w' = w.drewN n) : Below w.heap.size w w' := by
  obtain ⟨n, rfl⟩ := h
  exact pw_below_drewN (Below.refl _ _) n
set_option maxRecDepth 100000 in
theorem lifted (os : Os) (started : os.Started) (H : Type) (enc : TypeId × Value → H) :
    ReturnsInHanded {} Try.checked os 3 .any (Rows.jobsMoreSpec.pre6 enc Try.prog Try.f3 Rows.jobsMoreRow.domain false) (Rows.jobsMoreSpec.post enc Try.prog Try.f3 false true false false) := by
  refine returnsInHanded_of_change_sized (C := Try.checked) own started (by kernel_rfl) Try.func3
    (ChangeSpec.witness6 (enc := enc) (C := Try.checked) false ⟨#[], #[.slice none 0 0, .agg #[.int .i64 0, .int .u8 0, .bool false]], []⟩ 12 (by kernel_rfl) (by kernel_rfl) (by kernel_rfl) (by kernel_rfl)) ?_
  intro W base args ds gs before hval0 hW hcnd hsz0 _
  have hval : ∀ (j : Nat) t v, Try.f3.params[j]? = some t → args[j]? = some v → Value.okWide Try.prog W .any base t v := hval0
  have hW' := hW
  obtain ⟨p, q, hA0, hV, rfl, hfz, hnd⟩ := hW
  have hA : DataW.TrodAll enc Try.prog W 0 (fun _ => true) true Try.f3.params.toList args.toList ds p := hA0
  rw [Try.params3] at hA hval
  obtain ⟨v0, vs0, d0, ds0, p0, q0, hargs, rfl, rfl, h0, r0⟩ := trodAll_cons hA
  obtain ⟨v1, vs1, d1, ds1, p1, q1, rfl, rfl, rfl, h1, r1⟩ := trodAll_cons r0
  obtain ⟨rfl, rfl, rfl⟩ := trodAll_nil r1
  obtain rfl : args = #[v0, v1] := by cases args; simp_all
  obtain ⟨rfl, rfl⟩ := trodVars_none hV
  have k0 := h0
  have lt0 : ∀ x ∈ p0, x.block < W.heap.size := by obtain ⟨m, hm⟩ := k0; exact DataW.trod_lt m _ _ _ hm
  obtain ⟨A0, c0, x0, rfl, hr0, hc0, w0⟩ := opens_slice Try.underlying22 (Opens.slice Try.underlying22 opens26 (by kernel_rfl)) (hval 0 22 v0 rfl rfl) h0
  have k1 := h1
  have lt1 : ∀ x ∈ p1, x.block < W.heap.size := by obtain ⟨m, hm⟩ := k1; exact DataW.trod_lt m _ _ _ hm
  obtain ⟨cs1, x1, rfl, hk1, w1⟩ := opens_struct Try.underlying26 opens26 (hval 1 26 v1 rfl rfl) h1
  have e1 := k26_open hk1
  obtain rfl : cs1 = #[.int .i64 x1.f0.f0, .int .u8 x1.f0.f1, .bool x1.f1] := Array.toList_inj.1 e1
  clear hA0 hval0 hsz0
  obtain ⟨k, hk⟩ := Pure.JobsMore x0 x1 w0 w1
  refine (P.clepsydralaw20_JobsMore.calls k A0 c0 x0 x1.f0.f0 x1.f0.f1 x1.f1 true W hr0 hc0 hk).mono fun e W' ⟨he, hd⟩ => ?_
  have bel := hd
  subst he
  exact ⟨_, rfl, _, _, _, [], _, [], hW', trodAll_mk1 (shut_bool Try.underlying4 _), (trodAll_cons_mk (Below.trod laidOut (by kernel_rfl) (of_decide_eq_true (by kernel_rfl)) k0 bel lt0) (trodAll_cons_mk (Below.trod laidOut (by kernel_rfl) (of_decide_eq_true (by kernel_rfl)) k1 bel lt1) trodAll_mk0)), rfl, bel.frame _, fun h => by cases h⟩
theorem over : Rows.jobsMoreRow.holds Try.pinned (OpenSpec.ofChange Rows.jobsMoreSpec) :=
  OpenClaim.holds_of_wide 3 Try.f3 rfl rfl rfl rfl rfl rfl rfl ⟨rfl, rfl, rfl, rfl, rfl⟩ rfl rfl rfl rfl rfl (by kernel_rfl) Try.func3 (by kernel_rfl)
    (of_decide_eq_true (by kernel_rfl)) (by unfold Func.isWrapper; first | (rw [if_pos (by decide +kernel)]; kernel_rfl) | (rw [if_neg (by decide +kernel)]; exact ⟨rfl, rfl⟩))
    (fun os started H enc _ => lifted os started H enc)
theorem proved : Rows.JobsMoreSaid := over
#print axioms proved
end Go.Proofs.Ythbpjlfpfpcpbaa.jobsMore
namespace Go.Proofs.Ythbpjlfpfpcpbaa
/-- The row, under a short name, for the claim. -/
theorem jobsMore_holds : Rows.JobsMoreSaid := jobsMore.proved
end Go.Proofs.Ythbpjlfpfpcpbaa

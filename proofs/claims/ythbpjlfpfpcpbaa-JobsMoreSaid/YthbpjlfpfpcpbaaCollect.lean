/- slices.AppendSeq(nil, seq) and slices.Collect(seq) at jobs: a new slice that holds what the iterator handed, in that order. Condition: the iterator keeps SeqStopsK; at most N jobs come, N * 16 within the append's bound. -/
import Derived.Test.YthbpjlfpfpcpbaaKdI
import Derived.Test.YthbpjlfpfpcpbaaJob
import Derived.RangeFuncBound
import Derived.Shelf.AbstractIn
import Derived.Shelf.RegionOpen
import Derived.OwnWalkIn
import Derived.TacticsInMore
import Derived.LoopNIn
import Derived.LoopIn
import Derived.WalkKit
set_option linter.unusedVariables false
set_option linter.unusedSimpArgs false
namespace Go.Proofs.Ythbpjlfpfpcpbaa.P
open Go.RowKit Go.Shelf Go.Proofs.YthbpjlfpfpcpbaaW.PrintWords Go.Proofs.YthbpjlfpfpcpbaaW.PrintLast Go.Proofs.YthbpjlfpfpcpbaaW.PrintMore
attribute [local go_sem] Oper.semAt_some

/-- What the box of 's' holds between two rounds. -/
def ApI (w : World) (pre : List S24) (W : World) : Prop :=
  (∃ v, Boxed W w.heap.size 28 v ∧ Kd.R k24 24 W w.heap.size (fun _ => True) v pre) ∧ Below w.heap.size w W

theorem apI_own (w : World) (B : Nat) (hB : w.heap.size ≤ B) : OwnFrom B (ApI w) := fun s W W' row hs hg hr => by
  obtain ⟨⟨v, hb, hv⟩, hbl⟩ := hs
  refine ⟨⟨v, hb.kept hg (fun e => ?_), R_notcells hv hg (fun r er => (hr r er).2)⟩, hbl.grown hg hbl.size (fun k e => Nat.le_trans hB (hr k e).1)⟩
  obtain ⟨_, o, ho, hc⟩ := hr _ e.symm
  rw [show W.heap[w.heap.size]? = _ from hb] at ho
  cases ho
  cases hc

set_option maxRecDepth 100000 in
set_option maxHeartbeats 2000000 in
theorem appendSeq_in (F : Fence) (n : Nat) (hf : F.fn 31) (hro : F.round = none) (hn : 2 ≤ n) (g : Nat) (lb : Array Value) (hFg : F.fn g) (eg : ∀ args w, (callFunc g args).run Try.prog w = .ok (.enter g args) w)
    (S Sp : List S24 → Prop) (N : Nat) (hNb : N * 16 ≤ 140737488355328) (w : World) (hseq : SeqStopsK F (n - 1) Try.prog g lb (fun x => #[ejob x]) KeepsWalks S Sp N w) :
    CallsIn F n Try.prog 31 #[.slice none 0 0, .func (.func g) #[] lb] w fun e w' =>
      ∃ (v : Value) (ss : List S24), e = .returned v ∧ S ss ∧ Kd.R k24 24 w' w.heap.size (fun _ => True) v ss ∧ Below w.heap.size w w' := by
  have h1 : 1 ≤ n := by omega
  refine callsIn_of_wp_marks Try.func31 rfl hf ?_ hro
  simp only [Try.ntmps31, List.size_toArray, List.length_cons, List.length_nil, Nat.reduceAdd, Nat.reduceSub, Array.replicate_succ, Array.replicate_zero, List.push_toArray, List.append_toArray, List.nil_append, List.cons_append]
  gi_wp2
  have hb0 : Below w.heap.size w (w.alloc (.cells #[.slice none 0 0] 28)) := (Below.refl _ w).alloc (Nat.le_refl _) _
  refine wpIn_rangeFunc_ownH hro h1 (gf := g) (lb := lb) rfl hFg eg hseq walksK_t walksK_b hb0 (fun _ => rfl)
    (ApI w) (fun _ _ _ => False) (apI_own w _ (by simp)) (fun _ _ _ _ _ hs _ _ => hs)
    ⟨⟨_, Boxed.new w _ _, Kd.R_nil _ _ _ _ _⟩, hb0⟩
    (fun x a' W => ∃ Bx, w.heap.size < Bx ∧ W.heap[Bx]? = some (.cells #[.int .i64 x.f0, .int .u8 x.f1] 24 (0, 0)) ∧ a' = { tmps := #[.slice none 0 0, .func (.func g) #[] lb, .pointer (some ⟨w.heap.size, 0, none⟩), undef, .slice none 0 0, .pointer (some ⟨Bx, 0, none⟩), .func (.func g) #[] lb, ejob x, undef, undef, undef, undef, undef], defers := [] })
    ?hax ?assign ?body ?done ?stop
  case hax =>
    intro x a' s W W' row hs hg hr
    obtain ⟨Bx, h1, h2, h3⟩ := hs
    refine ⟨Bx, h1, (hg.block Bx (Array.getElem?_eq_some_iff.1 h2).1 (fun e => ?_)).trans h2, h3⟩
    obtain ⟨_, o, ho, hc⟩ := hr _ e.symm
    rw [h2] at ho
    cases ho
    cases hc
  case assign =>
    rintro l pre x W K hI hK
    unfold ejob
    gi_wp2
    obtain ⟨⟨v, hb, hv⟩, hbl⟩ := hI
    exact hK _ _ ((KeepsOthers.alloc _ _).from _) (KeepsWalks.alloc _ _) ⟨⟨v, hb.alloc _, Kd.R_alloc hv _⟩, below_alloc hbl _⟩ ⟨W.heap.size, hb.lt, World.alloc_heap_new W _, by unfold ejob; rfl⟩
  case body =>
    rintro l pre x a' W _ _ ⟨⟨v, hb, hv⟩, hbl⟩ ⟨Bx, hBx, hx, rfl⟩ hlen
    have hc := hb.cell
    have hfz := hb.frozen
    have hx0 : W.cell? ⟨Bx, 0, none⟩ = some (.int .i64 x.f0) := by simp [World.cell?, hx]
    have hx1 : W.cell? ⟨Bx, 1, none⟩ = some (.int .u8 x.f1) := by simp [World.cell?, hx]
    have HV := Aside0.mk hv
    have HB := Aside0.mk hbl
    have HX := Aside0.mk hx
    have HBox := Aside0.mk hb
    clear hv hbl hx hb
    obtain ⟨A0, c0, rfl⟩ := Kd.R_slice HV.out
    gi_wp2_with (first
      | (gi_at_builtin; refine R_appendI k24 (w0 := w) w.heap.size rfl (.tmp 8) (.tmp 10) 28 24 _ 16 rfl Try.underlying28 info24 rfl (by decide) (by omega) (.slice A0 pre.length c0) pre x [.int .i64 x.f0, .int .u8 x.f1] (fun _ => True) (fun _ => False) rfl rfl (k24_mkM _ _ _ x) (fun _ h => h.elim) (fun _ _ => trivial) HV.out HB.out (below_size HB.out) (by omega) ?_; intro v1 w1 hv1 hb1 hg1 hat1
         obtain ⟨A1, c1, rfl⟩ := Kd.R_slice hv1
         have HV1 := Aside0.mk hv1
         have HB1 := Aside0.mk hb1
         have HG1 := Aside0.mk hg1
         have HBox1 : Aside0 (Boxed w1 w.heap.size 28 (.slice A0 pre.length c0)) := ⟨HBox.out.kept hg1 (by obtain ⟨inner, ho⟩ := Kd.R_own HV.out; exact HBox.out.not_row (by decide) ho)⟩
         have hc1 := HBox1.out.cell
         have hfz1 := HBox1.out.frozen
         clear hv1 hb1 hg1 hat1)
      | gi_in)
    have hk1 : KeepsOthers W w1 := KeepsOthers.of_grownBy HG1.out (fun j o ej hj => by
      obtain ⟨inner, ho⟩ := Kd.R_own HV.out
      obtain ⟨cells, hcc⟩ := own_typed ho j ej
      rw [hcc] at hj
      cases hj
      rfl)
    have hk2 : KeepsOthers W (w1.setCell ⟨w.heap.size, 0, none⟩ (.slice A1 (pre ++ [x]).length c1)) := hk1.trans (KeepsOthers.setCell _ _ _)
    have hv2 := Kd.R_set HV1.out HBox1.out (by decide) 0 (.slice A1 (pre ++ [x]).length c1)
    rw [show (pre ++ [x]).length = pre.length + 1 from by simp] at hk2 hv2
    refine ⟨hk2.from _, hk2.walks, ⟨⟨_, HBox1.out.set _, hv2⟩, HB1.out.setCell (p := ⟨w.heap.size, 0, none⟩) (Nat.le_refl _) _⟩⟩
  case done =>
    rintro D ss W hD hS ⟨⟨v, hb, hv⟩, hbl⟩ hK
    have hc := hb.cell
    obtain ⟨A0, c0, rfl⟩ := Kd.R_slice hv
    have HV := Aside0.mk hv
    have HB := Aside0.mk hbl
    clear hv hbl hb
    gi_wp2
    refine ⟨by simp, .inl ⟨_, _, rfl, run_takeDeferred hK, ?_⟩⟩
    refine ⟨_, results_tmp rfl _ _ _, _, ss, rfl, hS, R_putObj HV.out _ hK rfl, HB.out.grown (grownBy_putObj' _ _ _) HB.out.size (fun k e => by cases e; simp at hD; omega)⟩
  case stop =>
    rintro D c pre W _ _ h _
    exact h.elim

set_option maxHeartbeats 1000000 in
theorem collect_in (F : Fence) (n : Nat) (hf : F.fn 26) (hf2 : F.fn 31) (hro : F.round = none) (hn : 3 ≤ n) (g : Nat) (lb : Array Value) (hFg : F.fn g) (eg : ∀ args w, (callFunc g args).run Try.prog w = .ok (.enter g args) w)
    (S Sp : List S24 → Prop) (N : Nat) (hNb : N * 16 ≤ 140737488355328) (w : World) (hseq : SeqStopsK F (n - 1 - 1) Try.prog g lb (fun x => #[ejob x]) KeepsWalks S Sp N w) :
    CallsIn F n Try.prog 26 #[.func (.func g) #[] lb] w fun e w' =>
      ∃ (v : Value) (ss : List S24), e = .returned v ∧ S ss ∧ Kd.R k24 24 w' w.heap.size (fun _ => True) v ss ∧ Below w.heap.size w w' := by
  have h1 : 1 ≤ n := by omega
  have happ := appendSeq_in F (n - 1) hf2 hro (by omega) g lb hFg eg S Sp N hNb w hseq
  refine callsIn_of_wp Try.func26 rfl hf ?_ hro
  simp only [Try.ntmps26, List.size_toArray, List.length_cons, List.length_nil, Nat.reduceAdd, Nat.reduceSub, Array.replicate_succ, Array.replicate_zero, List.push_toArray, List.append_toArray, List.nil_append, List.cons_append]
  gi_wp2_with (gi_at_call 31; refine happ.mono ?_; rintro e w' ⟨v, ss, rfl, hS, hrow, hb⟩)
  go_ret
  exact ⟨v, ss, rfl, hS, hrow, hb⟩
end Go.Proofs.Ythbpjlfpfpcpbaa.P

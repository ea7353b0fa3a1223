/- maps.Keys at a map whose keys are jobs: the iterator hands each key once, in some order. Condition: the map lies in memory as Mp.At says. -/
import Derived.Test.YthbpjlfpfpcpbaaMpW
import Derived.Test.YthbpjlfpfpcpbaaJob
import Derived.RangeFuncNested
import Derived.RangeFuncBound
import Derived.RangeFuncBox
import Derived.Shelf.AbstractIn
import Derived.Shelf.RegionOpen
import Derived.OwnWalkIn
import Derived.TacticsInMore
import Derived.LoopNIn
import Derived.LoopIn
set_option linter.unusedVariables false
set_option linter.unusedSimpArgs false
namespace Go.Proofs.Ythbpjlfpfpcpbaa.P
open Go.RowKit Go.Shelf Go.Proofs.YthbpjlfpfpcpbaaW.PrintWords Go.Proofs.YthbpjlfpfpcpbaaW.PrintLast Go.Proofs.YthbpjlfpfpcpbaaW.PrintMore

set_option maxRecDepth 100000 in
set_option maxHeartbeats 1000000 in
theorem keysItem_one (F : Fence) (n : Nat) (hf : F.fn 28) (hro : F.round = none) (hn : 1 ≤ n) (l Bm b : Nat) (kv : List (S24 × Value)) (J Jx : List S24 → World → Prop)
    (hY : ∀ pre x W, J pre W → pre.length < kv.length → YieldAt F (n - 1) Try.prog l #[ejob x] W fun e W' => (e = .returned (.bool true) ∧ J (pre ++ [x]) W' ∧ KeepsWalks W W') ∨ (e = .returned (.bool false) ∧ Jx (pre ++ [x]) W'))
    (W : World) (hJ : AbidesFrom W.heap.size J) (hm : W.cell? ⟨Bm, 0, none⟩ = some (.map (some b))) (hown : Mp.At W b ejob kv) (h0 : J [] W) :
    CallsIn F n Try.prog 28 #[.func (.yield l) #[] #[], .pointer (some ⟨Bm, 0, none⟩)] W fun e W' => (∃ v, e = .returned v) ∧
      ((∃ ss : List S24, ss.Perm (Mp.keys kv) ∧ J ss W') ∨ (∃ pre : List S24, (∃ suf, (pre ++ suf).Perm (Mp.keys kv)) ∧ Jx pre W')) := by
  refine callsIn_of_wp Try.func28 rfl hf ?_ hro
  simp only [Try.ntmps28, List.size_toArray, List.length_cons, List.length_nil, Nat.reduceAdd, Nat.reduceSub, Array.replicate_succ, Array.replicate_zero, List.push_toArray, List.append_toArray, List.nil_append, List.cons_append]
  gi_wp2_with (first
    | (gi_at_range; refine Mp.wpI_range rfl _ 49 rfl (kt := 24) Try.underlying49 rfl hown ?_; intro ob hrg0)
    | gi_in)
  go_frame
  gi_loopw [3] (fun _ wr => ∃ (todo : List (S24 × Value)) (ss : List S24), Mp.Rng wr W.heap.size b ejob kv todo ∧ (ss ++ Mp.keys todo).Perm (Mp.keys kv) ∧ J ss wr)
    (fun _ wr => Mp.left wr W.heap.size b)
  case atStart =>
    exact ⟨kv, [], hrg0, by simp, hJ [] W _ none h0 (World.grownBy_alloc W ob none) (fun r e => by cases e)⟩
  case round =>
    obtain ⟨todo, ss, hrg, hC, hJs⟩ := hrel
    gi_wp2_with (first
      | (gi_at_next; refine Mp.wpI_next rfl _ rfl rfl hrg ?_ ?_)
      | gi_in)
    · intro ht
      subst ht
      gi_wp2
      go_end0
      exact ⟨⟨_, rfl⟩, .inl ⟨ss, by simpa [Mp.keys] using hC, hJs⟩⟩
    · intro pre x y post w2 ht hrg2 hg2 hen
      have hlen : ss.length < kv.length := by
        have h1 := hC.length_eq
        rw [ht] at h1
        simp [Mp.keys] at h1
        omega
      have hJ2 : J ss w2 := hJ ss wr w2 (some W.heap.size) hJs hg2 (fun r e => by
        cases e
        obtain ⟨es, clock, seen, _, hr, _⟩ := hrg
        exact ⟨Nat.le_refl _, _, hr, rfl⟩)
      have hC2 : (ss ++ [x] ++ Mp.keys (pre ++ post)).Perm (Mp.keys kv) := by
        refine List.Perm.trans ?_ hC
        rw [ht]
        simp only [Mp.keys, List.map_append, List.map_cons, List.append_assoc, List.singleton_append]
        refine List.Perm.append_left _ ?_
        exact List.perm_middle.symm
      have hlt : (pre ++ post).length < todo.length := by rw [ht]; simp
      have hJ3 : J ss (w2.alloc (.cells #[.int .i64 x.f0, .int .u8 x.f1] 24)) := hJ ss w2 _ none hJ2 (World.grownBy_alloc _ _ none) (fun r e => by cases e)
      obtain ⟨fn, tmps, assign, body, hy, hR⟩ := hY ss x _ hJ3 hlen
      have hrg3 : Mp.Rng (w2.alloc (.cells #[.int .i64 x.f0, .int .u8 x.f1] 24)) W.heap.size b ejob kv (pre ++ post) := hrg2.kept (World.grownBy_alloc _ _ none) (by simp) (by simp)
      have hlt' : (pre ++ post).length < Mp.left wr W.heap.size b := by rw [hrg.left_eq]; exact hlt
      clear hC ht hlen hlt hJ2 hJ3 hrg2 hg2
      unfold ejob at hy hen
      gi_wp2
      refine hR.mono ?_
      rintro e W3 (⟨rfl, hJ3, hk3⟩ | ⟨rfl, hJx3⟩)
      · gi_wp2
        have hrg4 : Mp.Rng W3 W.heap.size b ejob kv (pre ++ post) := hrg3.walks hk3
        go_roundw
        case rel => exact ⟨pre ++ post, ss ++ [x], hrg4, hC2, hJ3⟩
        case measure => rw [hrg4.left_eq]; exact hlt'
      · gi_wp2
        refine bodyPost_ret (results_none rfl _ _ _) rfl ?_
        exact ⟨⟨_, rfl⟩, .inr ⟨ss ++ [x], ⟨_, hC2⟩, hJx3⟩⟩

theorem keysItem_stops (F : Fence) (n : Nat) (hf : F.fn 28) (hro : F.round = none) (hn : 1 ≤ n) (Bm b : Nat) (kv : List (S24 × Value)) (w : World) (hBm : Bm < w.heap.size)
    (hm : w.cell? ⟨Bm, 0, none⟩ = some (.map (some b))) (hown : Mp.At w b ejob kv) :
    SeqStopsK F n Try.prog 28 #[.pointer (some ⟨Bm, 0, none⟩)] (fun x => #[ejob x]) KeepsWalks (fun ss => ss.Perm (Mp.keys kv)) (fun pre => ∃ suf, (pre ++ suf).Perm (Mp.keys kv)) kv.length w := fun l J Jx W hW hJ _ hY h0 =>
  keysItem_one F n hf hro hn l Bm b kv J Jx hY W hJ ((hW.cell (p := ⟨Bm, 0, none⟩) hBm).trans hm) (hown.below hW hown.lt) h0

set_option maxHeartbeats 1000000 in
/-- maps.Keys: the map is boxed; the function value captures the box. -/
theorem keysItem_call (mb : Option Nat) (w : World) :
    Calls Try.prog 22 #[.map mb] w fun e w' => e = .returned (.func (.func 28) #[] #[.pointer (some ⟨w.heap.size, 0, none⟩)]) ∧ w' = w.alloc (.cells #[.map mb] 49) := by
  go_enter Try.func22, Try.ntmps22
  go_wp2
  go_ret
  exact ⟨rfl, rfl⟩
end Go.Proofs.Ythbpjlfpfpcpbaa.P

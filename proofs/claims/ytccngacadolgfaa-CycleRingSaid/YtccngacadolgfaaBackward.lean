/- slices.Backward's iterator at []int: hands each place and what stands there, from the last. Condition: what lay in memory when it was made stays (Kp = Below). -/
import Derived.Test.YtccngacadolgfaaKdI
import Derived.Test.YtccngacadolgfaaGx
import Derived.RangeFuncNested
import Derived.RangeFuncBound
import Derived.RangeFuncBox
import Derived.Shelf.AbstractIn
import Derived.Shelf.RegionOpen
import Derived.OwnWalkIn
import Derived.TacticsInMore
import Derived.LoopNIn
import Derived.LoopIn
set_option linter.unusedVariables false
set_option linter.unusedSimpArgs false
namespace Go.Proofs.Ytccngacadolgfaa.P
open Go.RowKit Go.Shelf Go.Proofs.YtccngacadolgfaaW.PrintWords Go.Proofs.YtccngacadolgfaaW.PrintLast Go.Proofs.YtccngacadolgfaaW.PrintMore

def bAt (row : List Int) (m : Nat) : Int × Int := (((row.length - 1 - m : Nat) : Int), rd row ((row.length - 1 - m : Nat) : Int))
def bpre (row : List Int) (m : Nat) : List (Int × Int) := (List.range m).map (bAt row)
def mpre {α : Type} (mk : Nat → α) (m : Nat) : List α := (List.range m).map mk
theorem mpre_succ {α : Type} (mk : Nat → α) (m : Nat) : mpre mk (m + 1) = mpre mk m ++ [mk m] := by simp [mpre, List.range_succ]
theorem bpre_succ (row : List Int) (m : Nat) : bpre row (m + 1) = bpre row m ++ [bAt row m] := by simp [bpre, List.range_succ]
def epair (p : Int × Int) : Array Value := #[.int .i64 p.1, .int .i64 p.2]

set_option maxRecDepth 100000 in
set_option maxHeartbeats 1000000 in
theorem backward_seq {α : Type} (enc : α → Array Value) (mk : Nat → α) (F : Fence) (n : Nat) (hf : F.fn 32) (hro : F.round = none) (hn : 1 ≤ n) (B : Nat) (A : Option Addr) (c : Nat) (row : List Int) (w : World) (hb : w.cell? ⟨B, 0, none⟩ = some (.slice A row.length c)) (hr : Kd.C (Kd.int .i64) w A row.length row) (hlen : row.length ≤ 1000000) (hmk : ∀ m, m < row.length → enc (mk m) = epair (bAt row m)) :
    SeqStopsK F n Try.prog 32 #[.pointer (some ⟨B, 0, none⟩)] enc (Below w.heap.size) (fun ss => ss = mpre mk row.length) (fun pre => ∃ m, m ≤ row.length ∧ pre = mpre mk m) row.length w := by
  intro l J Jx W hbl hJ hJx hY h0
  have HC := Aside0.mk hr
  have HMk := Aside0.mk hmk
  clear hr hmk
  show CallsIn F n Try.prog 32 #[.func (.yield l) #[] #[], .pointer (some ⟨B, 0, none⟩)] W _
  refine callsIn_of_wp Try.func32 rfl hf ?_ hro
  simp only [Try.ntmps32, List.size_toArray, List.length_cons, List.length_nil, Nat.reduceAdd, Nat.reduceSub, Array.replicate_succ, Array.replicate_zero, List.push_toArray, List.append_toArray, List.nil_append, List.cons_append]
  have hb1 := (hbl.cell (World.block_lt_of_cell? w _ hb)).trans hb
  gi_wp2
  gi_loopw [3] (fun i wr => ∃ q : Nat, q ≤ row.length ∧ i = .int .i64 ((q : Int) - 1) ∧ Aside0 (J (mpre mk (row.length - q)) wr) ∧ Aside0 (Below w.heap.size w wr)) (fun i _ => (intOf i + 1).toNat)
  case atStart => exact ⟨row.length, Nat.le_refl _, by go_num, ⟨by rw [Nat.sub_self]; exact h0⟩, ⟨hbl⟩⟩
  case round =>
    obtain ⟨q, hq, rfl, HJ, HB⟩ := hrel
    cases q with
    | zero =>
      gi_wp2
      go_end0
      exact ⟨⟨_, rfl⟩, .inl ⟨_, rfl, by simpa using HJ.out⟩⟩
    | succ q =>
      have e0 : ((q + 1 : Nat) : Int) - 1 = (q : Int) := by omega
      rw [e0]
      have hx : bAt row (row.length - (q + 1)) = ((q : Int), rd row q) := by
        unfold bAt
        rw [show row.length - 1 - (row.length - (q + 1)) = q by omega]
      have hpl : (mpre mk (row.length - (q + 1))).length < row.length := by simp [mpre]; omega
      have hen := HMk.out (row.length - (q + 1)) (by omega)
      rw [hx] at hen
      have hnext : mpre mk (row.length - q) = mpre mk (row.length - (q + 1)) ++ [mk (row.length - (q + 1))] := by
        rw [show row.length - q = (row.length - (q + 1)) + 1 by omega, mpre_succ]
      obtain ⟨ad, e1, hy0⟩ := Kd.at_int HC.out q (by omega) (by omega)
      cases e1
      replace hy0 := (HB.out.cell (World.block_lt_of_cell? w _ hy0)).trans hy0
      simp only [Int.toNat_natCast] at hy0
      have hb2 := (HB.out.cell (World.block_lt_of_cell? w _ hb)).trans hb
      obtain ⟨x, hxx⟩ : ∃ x, x = rd row q := ⟨_, rfl⟩
      rw [← hxx] at hy0 hen
      obtain ⟨fn, tmps, assign, body, hy, hR⟩ := hY _ (mk (row.length - (q + 1))) wr HJ.out hpl
      rw [hen] at hy
      have HN := Aside0.mk hnext
      have hq0 : (0 : Int) ≤ (q : Int) := by omega
      have hq1 : (q : Int) < (row.length : Int) := by omega
      have hqe := eq_true hq1
      clear hx hpl hnext hxx e0 hen
      unfold epair at hy
      gi_wp2
      refine hR.mono ?_
      rintro e W3 (⟨rfl, hJ3, hk3⟩ | ⟨rfl, hJx3⟩)
      · have HJ3 := Aside0.mk hJ3
        have HB3 := Aside0.mk (HB.out.trans hk3)
        clear hJ3 hk3
        gi_wp2
        go_roundw
        case rel => exact ⟨q, by omega, by go_num, ⟨by rw [HN.out]; exact HJ3.out⟩, HB3⟩
        case measure => (simp [intOf] <;> omega)
      · have HJ3 := Aside0.mk hJx3
        clear hJx3
        gi_wp2
        refine bodyPost_ret (results_none rfl _ _ _) rfl ?_
        exact ⟨⟨_, rfl⟩, .inr ⟨_, ⟨row.length - q, by omega, HN.out.symm ▸ rfl⟩, HJ3.out⟩⟩
end Go.Proofs.Ytccngacadolgfaa.P

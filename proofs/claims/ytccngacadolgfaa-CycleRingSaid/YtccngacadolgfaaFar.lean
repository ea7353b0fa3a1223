/- cycle.far and its closure: how many steps it is from each place to one. Condition: at most 100 rows; every place of a row is a row's. -/
import Derived.Test.YtccngacadolgfaaQ0
import Derived.Test.YtccngacadolgfaaMpW
import Derived.Test.YtccngacadolgfaaGx
import Derived.Test.YtccngacadolgfaaKdI
import Derived.Outline
set_option linter.unusedVariables false
set_option linter.unusedSimpArgs false
namespace Go.Proofs.Ytccngacadolgfaa.P
open Go.RowKit Go.Proofs.YtccngacadolgfaaW.PrintWords Go.Proofs.YtccngacadolgfaaW.PrintLast Go.Proofs.YtccngacadolgfaaW.PrintMore

theorem klint : Mp.KL Try.prog 3 (fun x : Int => .int .i64 x) := Mp.KL.int Try.underlying3
def eint (x : Int) : Value := .int .i64 x
theorem kleint : Mp.KL Try.prog 3 eint := klint
/-- A map of numbers as it lies. -/
def mpi (m : List (Int × Int)) : List (Int × Value) := m.map fun p => (p.1, .int .i64 p.2)
theorem get_mpi (x : Int) : ∀ m : List (Int × Int), Mp.get (mpi m) x = (Mp.get m x).map fun y => .int .i64 y
  | [] => rfl
  | p :: m => by
    show Mp.get ((p.1, Value.int .i64 p.2) :: mpi m) x = _
    rw [Mp.get_cons, Mp.get_cons]
    by_cases h : x = p.1
    · simp [h]
    · simp only [if_neg h]
      exact get_mpi x m
theorem put_mpi (x y : Int) : ∀ m : List (Int × Int), Mp.put (mpi m) x (.int .i64 y) = mpi (Mp.put m x y)
  | [] => rfl
  | p :: m => by
    show Mp.put ((p.1, Value.int .i64 p.2) :: mpi m) x _ = _
    by_cases h : x = p.1
    · simp [Mp.put, mpi, h]
    · simp only [Mp.put, if_neg h]
      show (p.1, Value.int .i64 p.2) :: Mp.put (mpi m) x (.int .i64 y) = mpi (p :: Mp.put m x y)
      rw [put_mpi x y m]
      rfl
theorem zero_int (w : World) : (zeroValue 3).run Try.prog w = .ok (.int .i64 0) w := by kernel_rfl
/-- Only a map's block has turned, and blocks are new: cells stay. -/
theorem keep_cell {w w' : World} {bm : Nat} {l : List (Int × Value)} (hk : KeepBut w w' bm none) (hm : Mp.At w bm eint l) {a : Addr} {v : Value} (h : w.cell? a = some v) : w'.cell? a = some v := by
  have hlt := World.block_lt_of_cell? w a h
  have hne : a.block ≠ bm := by
    rintro rfl
    obtain ⟨es, clock, hb, _⟩ := hm
    simp [World.cell?, hb] at h
  have e := hk.2 a.block hlt hne (by simp)
  unfold World.cell? at h ⊢
  rw [e]
  exact h
theorem keepBut_alloc {w w' : World} {g : Nat} (h : KeepBut w w' g none) (o : Obj) : KeepBut w (w'.alloc o) g none :=
  h.trans (KeepBut.of_below (below_alloc (Below.refl _ _) o) g none) (.inl rfl)
theorem keepBut_map {w w' w1 : World} {g : Nat} (h : KeepBut w w' g none) (hg : w'.grownBy w1 (some g)) : KeepBut w w1 g none :=
  ⟨Nat.le_trans h.1 hg.size, fun i hi hne hr => (hg.block i (Nat.lt_of_lt_of_le hi h.1) (fun e => hne (by cases e; rfl))).trans (h.2 i hi hne hr)⟩
theorem keepBut_row {w w' w1 : World} {g : Nat} {v : Value} (h : KeepBut w w' g none) (hg : w'.grownBy w1 v.ownBlock) (hb : ∀ k, v.ownBlock = some k → w.heap.size ≤ k) : KeepBut w w1 g none :=
  ⟨Nat.le_trans h.1 hg.size, fun i hi hne hr => (hg.block i (Nat.lt_of_lt_of_le hi h.1) (fun e => by have := hb i e.symm; omega)).trans (h.2 i hi hne hr)⟩

/-- One place looked at, n steps from home: what is known, and what is new. -/
def goes1 (home n : Int) (p : List (Int × Int) × List Int) (i : Int) : List (Int × Int) × List Int := if home ≤ i ∧ Mp.get p.1 i = none then (Mp.put p.1 i n, p.2 ++ [i]) else p
def goesF (home n : Int) (st : List (Int × Int)) (row : List Int) : List (Int × Int) × List Int := row.foldl (goes1 home n) (st, [])

theorem goes1_len (home n : Int) : ∀ (row : List Int) (p : List (Int × Int) × List Int), (row.foldl (goes1 home n) p).2.length ≤ p.2.length + row.length
  | [], p => by simp
  | i :: row, p => by
    rw [List.foldl_cons]
    have h := goes1_len home n row (goes1 home n p i)
    have h2 : (goes1 home n p i).2.length ≤ p.2.length + 1 := by
      unfold goes1
      split
      · simp
      · omega
    simp only [List.length_cons]
    omega

set_option maxRecDepth 100000 in
set_option maxHeartbeats 4000000 in
theorem goes_calls (Bb Bs Bh bm g : Nat) (N cap : Nat) (k : Nat) (n home : Int) (st : List (Int × Int)) (A : Option Addr) (c : Nat) (row : List Int) (w : World)
    (hkN : k < N) (hb : w.cell? ⟨Bb, 0, none⟩ = some (.slice (some ⟨g, 0, none⟩) N cap)) (hs : w.cell? ⟨Bs, 0, none⟩ = some (.map (some bm))) (hh : w.cell? ⟨Bh, 0, none⟩ = some (.int .i64 home))
    (hrow : w.cell? ⟨g, k, none⟩ = some (.slice A row.length c)) (hC : Kd.C (Kd.int .i64) w A row.length row) (hm : Mp.At w bm eint (mpi st)) (hlen : row.length ≤ 1000000) :
    Calls Try.prog 35 #[.int .i64 (k : Int), .int .i64 n, .pointer (some ⟨Bb, 0, none⟩), .pointer (some ⟨Bs, 0, none⟩), .pointer (some ⟨Bh, 0, none⟩)] w fun e w' =>
      ∃ v : Value, e = .returned v ∧ Kd.R (Kd.int .i64) 3 w' w.heap.size (fun _ => True) v (goesF home n st row).2 ∧ Mp.At w' bm eint (mpi (goesF home n st row).1) ∧ KeepBut w w' bm none ∧ Below bm w w' := by
  have hbmlt := hm.lt
  have HC := Aside0.mk hC
  have HM := Aside0.mk hm
  have hkI : ((k : Int) < (N : Int)) := by omega
  clear hC hm
  go_enter Try.func35, Try.ntmps35
  go_wp2
  go_loopw [8, 18] (fun v8 i wr => ∃ (j : Nat) (s : List (Int × Int)) (out : List Int), j ≤ row.length ∧ i = .int .i64 j ∧ Aside0 ((row.take j).foldl (goes1 home n) (st, []) = (s, out)) ∧ Aside0 (Kd.R (Kd.int .i64) 3 wr w.heap.size (fun _ => True) v8 out) ∧ Aside0 (Mp.At wr bm eint (mpi s)) ∧ Aside0 (KeepBut w wr bm none) ∧ Aside0 (Below bm w wr)) (fun _ i _ => row.length - (intOf i).toNat)
  case atStart => exact ⟨0, st, [], Nat.zero_le _, rfl, ⟨rfl⟩, ⟨Kd.R_nil _ _ _ _ _⟩, HM, ⟨KeepBut.refl _ _ _⟩, ⟨Below.refl _ _⟩⟩
  case round =>
    obtain ⟨j, s, out, hj, rfl, HF, HO, HMr, HK, HBm⟩ := hrel
    by_cases hlt : j < row.length
    · obtain ⟨x, hx⟩ : ∃ x, x = rd row j := ⟨_, rfl⟩
      obtain ⟨ad, e1, hx0⟩ := Kd.at_int HC.out j (by omega) (by omega)
      cases e1
      replace hx0 := keep_cell HK.out HM.out hx0
      rw [← hx] at hx0
      simp only [Int.toNat_natCast] at hx0
      have hs' := keep_cell HK.out HM.out hs
      have hh' := keep_cell HK.out HM.out hh
      have hlk := Mp.run_lookup kleint Try.underlying64 zero_int HMr.out x true
      rw [get_mpi] at hlk
      have hol : out.length ≤ 1000000 := by
        have h1 := goes1_len home n (row.take j) (st, [])
        rw [HF.out] at h1
        simp at h1
        omega
      have hfo : (row.take (j + 1)).foldl (goes1 home n) (st, []) = goes1 home n (s, out) x := by
        rw [take_snoc row j 0 hlt, List.foldl_append, HF.out, hx]
        rfl
      have HOL := Aside0.mk hol
      clear hx hol
      unfold eint at hlk
      by_cases hxh : home ≤ x
      · cases hget : Mp.get s x with
        | none =>
          rw [hget] at hlk
          have e2 : goes1 home n (s, out) x = (Mp.put s x n, out ++ [x]) := by unfold goes1; rw [if_pos ⟨hxh, hget⟩]
          rw [e2] at hfo
          have HFn := Aside0.mk hfo
          simp only [if_true, Option.map_none, Option.getD_none, Option.isSome_none] at hlk
          clear hfo e2 hget
          go_wp2_with (first
            | (at_mapUpdate; refine Mp.wp_mapUpdate rfl (.tmp 35) (.tmp 36) (.tmp 37) 64 rfl kleint Try.underlying64 rfl HMr.out x rfl (.int .i64 n) rfl (fun W2 hat hg => ?_); rw [put_mpi] at hat; have HM2 := Aside0.mk hat; have HK2 := Aside0.mk (keepBut_map HK.out hg); have HBm2 := Aside0.mk (HBm.out.grown hg (Nat.le_trans (Nat.le_of_lt hbmlt) HK.out.1) (fun k e => by cases e; exact Nat.le_refl _)); have HO2 := Aside0.mk (R_map_turned HO.out HMr.out hg); clear hat hg)
            | (at_builtin; refine Kd.R_append (Kd.int .i64) (w0 := W2) w.heap.size rfl (.tmp 38) (.tmp 40) 34 3 (.int .i64 0) 8 rfl Try.underlying34 info3 rfl (by decide) (by omega) u8 out x [.int .i64 x] (fun _ => True) (fun _ => False) rfl rfl rfl (fun _ hk => hk.elim) (fun _ _ => trivial) HO2.out ⟨rfl, rfl, rfl, Nat.le_refl _, fun _ _ => rfl⟩ HK2.out.1 (by have := HOL.out; omega) ?_; intro v1 w1 ho hb hg hat; obtain ⟨inner, hown⟩ := Kd.R_own HO2.out; have HK3 := Aside0.mk (keepBut_row HK2.out hg (own_base hown)); have HBm3 := Aside0.mk (HBm2.out.grown hg (Nat.le_trans (Nat.le_of_lt hbmlt) HK2.out.1) (fun k e => Nat.le_trans (Nat.le_of_lt hbmlt) (own_base hown k e))); have HM3 := Aside0.mk (map_row HM2.out HO2.out hg); have HO3 := Aside0.mk ho; clear ho hb hg hat hown))
          go_roundw
          case rel => exact ⟨j + 1, _, _, hlt, by go_num, HFn, HO3, HM3, HK3, HBm3⟩
          case measure => simp [intOf]; omega
        | some y =>
          rw [hget] at hlk
          have e2 : goes1 home n (s, out) x = (s, out) := by unfold goes1; rw [if_neg (fun h => by rw [hget] at h; cases h.2)]
          rw [e2] at hfo
          have HFn := Aside0.mk hfo
          simp only [if_true, Option.map_some, Option.getD_some, Option.isSome_some] at hlk
          clear hfo e2 hget
          go_wp2
          go_roundw
          case rel => exact ⟨j + 1, _, _, hlt, by go_num, HFn, HO, HMr, HK, HBm⟩
          case measure => simp [intOf]; omega
      · have e2 : goes1 home n (s, out) x = (s, out) := by unfold goes1; rw [if_neg (fun h => hxh h.1)]
        rw [e2] at hfo
        have HFn := Aside0.mk hfo
        obtain ⟨vv, bb, hvv⟩ : ∃ (vv : Int) (bb : Bool), ((Mp.get s x).map fun y => Value.int .i64 y).getD (.int .i64 0) = .int .i64 vv ∧ ((Mp.get s x).map fun y => Value.int .i64 y).isSome = bb := by
          cases Mp.get s x with
          | none => exact ⟨0, false, rfl, rfl⟩
          | some y => exact ⟨y, true, rfl, rfl⟩
        rw [hvv.1, hvv.2] at hlk
        simp only [if_true] at hlk
        have hxl : x < home := by omega
        clear hfo e2 hvv
        go_wp2
        go_roundw
        case rel => exact ⟨j + 1, _, _, hlt, by go_num, HFn, HO, HMr, HK, HBm⟩
        case measure => simp [intOf]; omega
    · have hjn : j = row.length := by omega
      subst hjn
      rw [List.take_length] at HF
      have hfo : goesF home n st row = (s, out) := HF.out
      have HFn := Aside0.mk hfo
      clear hfo
      go_wp2
      go_ret
      exact ⟨_, rfl, by rw [HFn.out]; exact HO.out, by rw [HFn.out]; exact HMr.out, HK.out, HBm.out⟩
end Go.Proofs.Ytccngacadolgfaa.P

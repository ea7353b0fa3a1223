/- jobs.Sorted: each job once, rising; it must be there if one of that job must. Condition: at most 1000000 items. -/
import Derived.Test.YthbpjlfpfpcpbaaSortJob
import Derived.Test.YthbpjlfpfpcpbaaKeysItem
import Derived.Test.YthbpjlfpfpcpbaaCollect
import Derived.Test.YthbpjlfpfpcpbaaMpW
import Derived.Test.YthbpjlfpfpcpbaaGx
import Derived.Outline
import Derived.BigQuiet
set_option linter.unusedVariables false
set_option linter.unusedSimpArgs false
namespace Go.Proofs.Ythbpjlfpfpcpbaa.P
open Go.RowKit Go.Sort Go.Shelf Go.Proofs.YthbpjlfpfpcpbaaW.PrintWords Go.Proofs.YthbpjlfpfpcpbaaW.PrintLast Go.Proofs.YthbpjlfpfpcpbaaW.PrintMore

theorem sortJobs_perm {a b : List S24} (h : a.Perm b) : sortJobs a = sortJobs b := by
  have ht : ∀ x y : S24, ltOf cmpJob x y = true ∨ x = y ∨ ltOf cmpJob y x = true := by
    intro x y
    cases h1 : ltOf cmpJob x y <;> cases h2 : ltOf cmpJob y x <;> simp
    exact totJob x y h1 h2
  have htr : ∀ x y z : S24, (!(ltOf cmpJob) y x) = true → (!(ltOf cmpJob) z y) = true → (!(ltOf cmpJob) z x) = true := by
    intro x y z h1 h2
    simp only [Bool.not_eq_true'] at *
    exact swoJob.ntrans z y x h2 h1
  have hto : ∀ x y : S24, ((!(ltOf cmpJob) y x) || (!(ltOf cmpJob) x y)) = true := by
    intro x y
    cases h1 : ltOf cmpJob y x <;> cases h2 : ltOf cmpJob x y <;> simp
    have := swoJob.trans x y x h2 h1
    rw [swoJob.irrefl] at this
    cases this
  have hp : (sortJobs a).Perm (sortJobs b) := ((List.mergeSort_perm a _).trans h).trans (List.mergeSort_perm b _).symm
  refine hp.eq_of_pairwise (le := fun x y => (!(ltOf cmpJob) y x) = true) ?_ (List.pairwise_mergeSort htr hto a) (List.pairwise_mergeSort htr hto b)
  intro x y _ _ h1 h2
  simp only [Bool.not_eq_true'] at h1 h2
  exact totJob x y h2 h1

set_option maxHeartbeats 1000000 in
/-- slices.SortedFunc(maps.Keys(m), order): the map's jobs, rising. -/
theorem sortedFunc_keys (w : World) (Bm b : Nat) (kv : List (S24 × Value)) (hBm : Bm < w.heap.size) (hm : w.cell? ⟨Bm, 0, none⟩ = some (.map (some b))) (hown : Mp.At w b ejob kv) (hlen : kv.length ≤ 1000000) :
    Calls Try.prog 21 #[.func (.func 28) #[] #[.pointer (some ⟨Bm, 0, none⟩)], .func (.func 20) #[] #[]] w fun e w' =>
      ∃ v, e = .returned v ∧ Kd.R k24 24 w' w.heap.size (fun _ => True) v (sortJobs (Mp.keys kv)) ∧ Below w.heap.size w w' := by
  have hseq := keysItem_stops Fence.wide 8 trivial rfl (by decide) Bm b kv w hBm hm hown
  have hcol := callsIn_wide.1 (collect_in Fence.wide 10 trivial trivial rfl (by decide) 28 #[.pointer (some ⟨Bm, 0, none⟩)] trivial
    (enters_of Try.func28 (by kernel_rfl) rfl) _ _ kv.length (by omega) w hseq)
  go_enter Try.func21, Try.ntmps21
  go_wp2_with (go_at_call 26; refine hcol.mono ?_; rintro e w1 ⟨v, ss, rfl, hS, hrow, hb⟩)
  have hss : ss.length = kv.length := by have := hS.length_eq; simpa [Mp.keys] using this
  have HS := Aside0.mk hS
  have HB := Aside0.mk hb
  have hsort := sort_jobs 20 order_enters (fun x y W => order_grow x y W) hrow (by omega)
  have HO := Kd.R_own hrow
  clear hS hb hrow hss
  go_wp2_with (go_at_call 27; refine hsort.mono ?_; rintro e w2 ⟨rfl, hrow2, hg⟩)
  go_ret
  obtain ⟨inner, ho⟩ := HO
  refine ⟨v, rfl, ?_, HB.out.grown hg HB.out.size (own_base ho)⟩
  rw [← sortJobs_perm HS.out]
  exact hrow2

/-- An item as a value. -/
def eitem (x : S26) : Value := .agg #[.int .i64 x.f0.f0, .int .u8 x.f0.f1, .bool x.f1]
/-- The jobs of items, in the order in which they come, and whether they must be there. -/
def mustOf (l : List S26) : List (S24 × Bool) := l.foldl (fun m x => Mp.put m x.f0 ((Mp.get m x.f0).getD false || x.f1)) []
/-- The same as the map holds it. -/
def mpv (m : List (S24 × Bool)) : List (S24 × Value) := m.map fun p => (p.1, eitem ⟨p.1, p.2⟩)
def sortedF (l : List S26) : List S26 := (sortJobs (Mp.keys (mustOf l))).map fun j => ⟨j, (Mp.get (mustOf l) j).getD false⟩
def jobs_Sorted.f (l : List S26) : Option (List S26) := if l.length ≤ 1000000 then some (sortedF l) else none

theorem keys_mpv (m : List (S24 × Bool)) : Mp.keys (mpv m) = Mp.keys m := by simp [Mp.keys, mpv]
theorem get_mpv (j : S24) : ∀ m : List (S24 × Bool), Mp.get (mpv m) j = (Mp.get m j).map fun b => eitem ⟨j, b⟩
  | [] => rfl
  | p :: m => by
    show Mp.get ((p.1, eitem ⟨p.1, p.2⟩) :: mpv m) j = _
    rw [Mp.get_cons, Mp.get_cons]
    by_cases h : j = p.1
    · simp [h]
    · simp only [if_neg h]
      exact get_mpv j m
theorem put_mpv (j : S24) (b : Bool) : ∀ m : List (S24 × Bool), Mp.put (mpv m) j (eitem ⟨j, b⟩) = mpv (Mp.put m j b)
  | [] => rfl
  | p :: m => by
    show Mp.put ((p.1, eitem ⟨p.1, p.2⟩) :: mpv m) j _ = _
    by_cases h : j = p.1
    · simp [Mp.put, mpv, h]
    · simp only [Mp.put, if_neg h]
      show (p.1, eitem ⟨p.1, p.2⟩) :: Mp.put (mpv m) j (eitem ⟨j, b⟩) = mpv (p :: Mp.put m j b)
      rw [put_mpv j b m]
      rfl
theorem mustOf_snoc (l : List S26) (x : S26) : mustOf (l ++ [x]) = Mp.put (mustOf l) x.f0 ((Mp.get (mustOf l) x.f0).getD false || x.f1) := by simp [mustOf]
theorem mustOf_length (l : List S26) : (mustOf l).length ≤ l.length := by
  refine snoc_ind (p := fun l => (mustOf l).length ≤ l.length) (Nat.le_refl _) (fun l x ih => ?_) l
  rw [mustOf_snoc]
  have := Mp.length_put x.f0 ((Mp.get (mustOf l) x.f0).getD false || x.f1) (mustOf l)
  rw [List.length_append, List.length_singleton]
  omega
theorem zero_item (w : World) : (zeroValue 26).run Try.prog w = .ok (eitem ⟨⟨0, 0⟩, false⟩) w := by kernel_rfl
theorem getD_mpv (m : List (S24 × Bool)) (j : S24) : (Mp.get (mpv m) j).getD (eitem ⟨⟨0, 0⟩, false⟩) = eitem ⟨match Mp.get m j with | some _ => j | none => ⟨0, 0⟩, (Mp.get m j).getD false⟩ := by
  rw [get_mpv]
  cases Mp.get m j <;> rfl

set_option maxRecDepth 100000 in
set_option maxHeartbeats 2000000 in
theorem jobs_Sorted.calls (A0 : Option Addr) (c0 : Nat) (l0 : List S26) (r : List S26) (w : World) (hr0 : Kd.C k26 w A0 l0.length l0) (hc0 : l0.length ≤ c0) (h : jobs_Sorted.f l0 = some r) :
    Calls Try.prog 17 #[.slice A0 l0.length c0] w fun e w' => ∃ v0_ : Value, e = .returned (v0_) ∧ Kd.R k26 26 w' w.heap.size (fun _ => True) v0_ r ∧ Below w.heap.size w w' := by
  have hlen : l0.length ≤ 1000000 := by
    unfold jobs_Sorted.f at h
    split at h
    · assumption
    · cases h
  have hr : sortedF l0 = r := by
    unfold jobs_Sorted.f at h
    rw [if_pos hlen] at h
    exact Option.some.inj h
  have HR := Aside0.mk hr
  have HC0 := Aside0.mk hr0
  have hmm := @run_makeMap Try.prog
  have hfd : ∀ (a b : Int) (c : Bool) (w : World), (Instr.field 26 (.agg #[.int .i64 a, .int .u8 b, .bool c]) 1).run Try.prog w = .ok (.bool c) w := fun _ _ _ _ => by kernel_rfl
  have hu24 := Try.underlying24
  have hu26 := Try.underlying26
  clear h hr hr0
  go_enter Try.func17, Try.ntmps17
  go_wp2
  clear hmm
  go_loopw [12] (fun i wr => ∃ k : Nat, k ≤ l0.length ∧ i = .int .i64 k ∧ Aside0 (Mp.At wr w.heap.size ejob (mpv (mustOf (l0.take k)))) ∧ Aside0 (Below w.heap.size w wr)) (fun i _ => l0.length - (intOf i).toNat)
  case atStart =>
    refine ⟨0, Nat.zero_le _, rfl, ⟨?_⟩, ⟨(Below.refl _ _).alloc (Nat.le_refl _) _⟩⟩
    exact Mp.At.made w ejob
  case round =>
    obtain ⟨k, hk, rfl, HM, HB⟩ := hrel
    by_cases hlt : k < l0.length
    · obtain ⟨x, hx⟩ : ∃ x, x = rd_T26 l0 k := ⟨_, rfl⟩
      obtain ⟨ad, e1, hx0, hx1, hx2⟩ := at_T26 HC0.out k (by omega) (by omega)
      cases e1
      replace hx0 := (HB.out.cell (World.block_lt_of_cell? w _ hx0)).trans hx0
      replace hx1 := (HB.out.cell (World.block_lt_of_cell? w _ hx1)).trans hx1
      replace hx2 := (HB.out.cell (World.block_lt_of_cell? w _ hx2)).trans hx2
      rw [← hx] at hx0 hx1 hx2
      simp only [Int.toNat_natCast] at hx0 hx1 hx2
      have HX := Aside0.mk hx
      clear hx
      obtain ⟨b, hb⟩ : ∃ b, b = (Mp.get (mustOf (l0.take k)) x.f0).getD false := ⟨_, rfl⟩
      obtain ⟨j, hj⟩ : ∃ j : S24, j = (match Mp.get (mustOf (l0.take k)) x.f0 with | some _ => x.f0 | none => ⟨0, 0⟩) := ⟨_, rfl⟩
      go_wp2
      obtain ⟨W1, hW1⟩ : ∃ W1, W1 = (wr.alloc (.cells #[.int .i64 x.f0.f0, .int .u8 x.f0.f1, .bool x.f1] 26)).drew := ⟨_, rfl⟩
      have HM1 : Mp.At W1 w.heap.size ejob (mpv (mustOf (l0.take k))) := by rw [hW1]; exact (HM.out.alloc _).drew
      have HB2 := Aside0.mk (show Below w.heap.size w W1 by rw [hW1]; exact below_drew (below_alloc HB.out _))
      obtain ⟨c0_, c1_, c2_⟩ := new3 wr (.int .i64 x.f0.f0) (.int .u8 x.f0.f1) (.bool x.f1) 26
      replace c0_ : W1.cell? ⟨wr.heap.size, 0, none⟩ = some (.int .i64 x.f0.f0) := by rw [hW1]; exact c0_
      replace c1_ : W1.cell? ⟨wr.heap.size, 1, none⟩ = some (.int .u8 x.f0.f1) := by rw [hW1]; exact c1_
      replace c2_ : W1.cell? ⟨wr.heap.size, 2, none⟩ = some (.bool x.f1) := by rw [hW1]; exact c2_
      have hlk := Mp.run_lookup kljob Try.underlying49 zero_item HM1 x.f0 false
      rw [getD_mpv, ← hb, ← hj] at hlk
      unfold eitem ejob at hlk
      simp only [Bool.false_eq_true, if_false] at hlk
      have HB1 := Aside0.mk hb
      have HM2 := Aside0.mk HM1
      clear hb hj HM1
      refine region_tail 15 W1 hW1 (by kernel_rfl) (by kernel_rfl) ?_
      clear hW1
      simp only [List.take_succ_cons, List.take_zero, List.drop_succ_cons, List.drop_zero]
      have HT : ∀ b', b' = (b || x.f1) → Mp.put (mpv (mustOf (l0.take k))) x.f0 (eitem ⟨x.f0, b'⟩) = mpv (mustOf (l0.take (k + 1))) := by
        rintro b' rfl
        rw [take_snoc l0 k z26 hlt, mustOf_snoc, put_mpv]
        have e : l0.getD k z26 = x := by rw [HX.out]; rfl
        rw [e, HB1.out]
      have HS := Aside0.mk HT
      clear HT
      cases b with
      | false =>
        repeat still_step
        refine wpStill_nil ?_
        refine Mp.wp_mapUpdate rfl (.tmp 16) (.tmp 18) (.tmp 30) 49 rfl kljob Try.underlying49 rfl HM2.out x.f0 rfl (eitem ⟨x.f0, x.f1⟩) rfl (fun W2 hat hg => ?_)
        go_wp2
        go_roundw
        case rel => exact ⟨k + 1, by omega, by go_num, ⟨by rw [← HS.out x.f1 rfl]; exact hat⟩, ⟨HB2.out.grown hg HB2.out.size (fun j e => by cases e; exact Nat.le_refl _)⟩⟩
        case measure => simp [intOf]; omega
      | true =>
        repeat still_step
        refine wpStill_nil ?_
        refine Mp.wp_mapUpdate rfl (.tmp 16) (.tmp 18) (.tmp 30) 49 rfl kljob Try.underlying49 rfl HM2.out x.f0 rfl (eitem ⟨x.f0, true⟩) rfl (fun W2 hat hg => ?_)
        go_wp2
        go_roundw
        case rel => exact ⟨k + 1, by omega, by go_num, ⟨by rw [← HS.out true rfl]; exact hat⟩, ⟨HB2.out.grown hg HB2.out.size (fun j e => by cases e; exact Nat.le_refl _)⟩⟩
        case measure => simp [intOf]; omega
    · have hkl : k = l0.length := by omega
      subst hkl
      rw [List.take_length] at HM
      obtain ⟨m, hm⟩ : ∃ m, m = mustOf l0 := ⟨_, rfl⟩
      have hml : m.length ≤ 1000000 := by rw [hm]; exact Nat.le_trans (mustOf_length l0) hlen
      have HRm : Aside0 ((sortJobs (Mp.keys m)).map (fun j => (⟨j, (Mp.get m j).getD false⟩ : S26)) = r) := ⟨by rw [hm]; exact HR.out⟩
      rw [← hm] at HM
      clear hm HR
      have hBs := HB.out.size
      have hat0 := HM.out
      have hlt0 := hat0.lt
      have hsf := sortedFunc_keys (wr.alloc (.cells #[.map (some w.heap.size)] 49)) wr.heap.size w.heap.size (mpv m) (by simp) (new1 wr _ _) (hat0.alloc _) (by simpa [mpv] using hml)
      have HB1 := Aside0.mk (below_alloc HB.out (.cells #[.map (some w.heap.size)] 49))
      have HM1 := Aside0.mk (hat0.alloc (.cells #[.map (some w.heap.size)] 49))
      rw [keys_mpv] at hsf
      have hsl : (sortJobs (Mp.keys m)).length ≤ 1000000 := by simpa [sortJobs, Mp.keys] using hml
      have hmem : Aside0 (∀ j ∈ sortJobs (Mp.keys m), Mp.get m j ≠ none) := ⟨fun j hj h => Mp.get_none.1 h ((List.mergeSort_perm _ _).mem_iff.1 hj)⟩
      generalize sortJobs (Mp.keys m) = js at hsf HRm hsl hmem
      have HSF := Aside0.mk hsf
      clear hat0 hsf hlt0
      go_wp2_with (first
        | (go_at_call 22; refine (keysItem_call (some w.heap.size) wr).mono ?_; rintro e w1 ⟨rfl, rfl⟩)
        | (go_at_call 21; refine HSF.out.mono ?_; rintro e W3 ⟨v, rfl, hrow, hb3⟩; obtain ⟨A3, c3, rfl⟩ := Kd.R_slice hrow; have HB3 := Aside0.mk (below_then HB1.out HB1.out.size hb3); have HM3 := Aside0.mk (HM1.out.below hb3 HM1.out.lt); have HR3 := Aside0.mk (Kd.R_reads' hrow).2; clear hrow hb3))
      obtain ⟨g, hg⟩ : ∃ g : S24 → S26, g = fun j => ⟨j, (Mp.get m j).getD false⟩ := ⟨_, rfl⟩
      have HG := Aside0.mk hg
      rw [← hg] at HRm
      clear hg
      have hcs := HR3.out.1
      go_loopw [6, 36] (fun v6 i wx => ∃ k : Nat, k ≤ js.length ∧ i = .int .i64 k ∧ Aside0 (Kd.R k26 26 wx W3.heap.size (fun _ => True) v6 ((js.take k).map g)) ∧ Aside0 (Below W3.heap.size W3 wx)) (fun _ i _ => js.length - (intOf i).toNat)
      case atStart => exact ⟨0, Nat.zero_le _, rfl, ⟨Kd.R_nil _ _ _ _ _⟩, ⟨Below.refl _ _⟩⟩
      case round =>
        rename_i wx _
        obtain ⟨k, hk2, rfl, HO, HBx⟩ := hrel
        by_cases hlt2 : k < js.length
        · obtain ⟨j, hj⟩ : ∃ j, j = rd_T24 js k := ⟨_, rfl⟩
          obtain ⟨ad, e1, hx0, hx1⟩ := at_T24 HR3.out.2 k (by omega) (by omega)
          cases e1
          replace hx0 := (HBx.out.cell (World.block_lt_of_cell? W3 _ hx0)).trans hx0
          replace hx1 := (HBx.out.cell (World.block_lt_of_cell? W3 _ hx1)).trans hx1
          rw [← hj] at hx0 hx1
          simp only [Int.toNat_natCast] at hx0 hx1
          have hjm : j ∈ js := by rw [hj]; unfold rd_T24; rw [Int.toNat_natCast, List.getD_eq_getElem?_getD, List.getElem?_eq_getElem hlt2]; exact List.getElem_mem hlt2
          have hjt : (js.take (k + 1)).map g = (js.take k).map g ++ [g j] := by rw [take_snoc js k z24 hlt2, List.map_append, hj]; rfl
          have hgj : (Mp.get (mpv m) j).getD (eitem ⟨⟨0, 0⟩, false⟩) = eitem (g j) := by
            rw [get_mpv, HG.out]
            cases hq : Mp.get m j with
            | none => exact absurd hq (hmem.out j hjm)
            | some b => show eitem ⟨j, b⟩ = eitem ⟨j, (Mp.get m j).getD false⟩; rw [hq]; rfl
          have HMx := Aside0.mk ((HM3.out.below HBx.out HM3.out.lt).alloc (.cells #[.int .i64 j.f0, .int .u8 j.f1] 24))
          have hlk := Mp.run_lookup kljob Try.underlying49 zero_item HMx.out j false
          rw [hgj] at hlk
          unfold eitem ejob at hlk
          simp only [Bool.false_eq_true, if_false] at hlk
          have HX := Aside0.mk hjt
          have hkl : ((js.take k).map g).length = k := by simp; omega
          have HL := Aside0.mk hkl
          clear hj hjm hgj hjt hkl
          go_wp2_with (at_builtin; refine Kd.R_append k26 (w0 := W3) W3.heap.size rfl (.tmp 40) (.tmp 44) 22 26 (.agg #[(.int .i64 0), (.int .u8 0), (.bool false)]) 24 rfl Try.underlying22 info26 rfl (by decide) (by omega) u6 ((js.take k).map g) (g j) [.int .i64 (g j).f0.f0, .int .u8 (g j).f0.f1, .bool (g j).f1] (fun _ => True) (fun _ => False) rfl (by rw [World.size_alloc]; rfl) (k26_mkM _ _ _ (g j)) (fun _ hk => hk.elim) (fun _ _ => trivial) (Kd.R_alloc HO.out _) (below_alloc HBx.out _) (below_size (below_alloc HBx.out _)) (by rw [HL.out]; omega) ?_; intro v1 w1 ho hb hg hat; have HO1 := Aside0.mk ho; have HB1x := Aside0.mk hb; clear ho hb hg hat)
          go_roundw
          case rel => exact ⟨k + 1, by omega, by go_num, ⟨by rw [HX.out]; exact HO1.out⟩, HB1x⟩
          case measure => simp [intOf]; omega
        · have hkl : k = js.length := by omega
          subst hkl
          rw [List.take_length] at HO
          go_wp2
          go_ret
          exact ⟨_, rfl, by rw [← HRm.out]; exact Kd.R_lower HO.out HB3.out.size, below_then HB3.out HB3.out.size HBx.out⟩
end Go.Proofs.Ythbpjlfpfpcpbaa.P

/- jobs.order, as a sort's comparison: its value, and that it leaves the memory as it was but for new blocks. No condition. -/
import Derived.Test.YthbpjlfpfpcpbaaQ5
import Derived.Test.YthbpjlfpfpcpbaaJob
import Derived.Test.YthbpjlfpfpcpbaaLays
set_option linter.unusedVariables false
set_option linter.unusedSimpArgs false
namespace Go.Proofs.Ythbpjlfpfpcpbaa.P
open Go.RowKit Go.Sort Go.Proofs.YthbpjlfpfpcpbaaW.PrintWords Go.Proofs.YthbpjlfpfpcpbaaW.PrintLast Go.Proofs.YthbpjlfpfpcpbaaW.PrintMore

def cmpI (a b : Int) : Int := if a < b then -1 else if b < a then 1 else 0
/-- By the unit, then by the type. -/
def cmpJob (x y : S24) : Int := if cmpI x.f0 y.f0 = 0 then cmpI x.f1 y.f1 else cmpI x.f0 y.f0

theorem compare_int (a b : Int) : cmp_Compare_int.f a b = some (cmpI a b) := by
  simp only [cmp_Compare_int.f, cmp_isNaN_int.f, Option.bind_some, bne_self_eq_false, Bool.false_eq_true, if_false, cmpI, gt_iff_lt]
  split
  · rfl
  · split <;> rfl
theorem compare_u8 (a b : Int) : cmp_Compare_uint8.f a b = some (cmpI a b) := by
  simp only [cmp_Compare_uint8.f, cmp_isNaN_uint8.f, Option.bind_some, bne_self_eq_false, Bool.false_eq_true, if_false, cmpI, gt_iff_lt]
  split
  · rfl
  · split <;> rfl
theorem or_two (a b : Int) : cmp_Or_int.f 3 [a, b] = some (if a = 0 then b else a) := by
  by_cases h : a = 0
  · subst h
    by_cases h2 : b = 0
    · subst h2
      simp [cmp_Or_int.f, cmp_Or_int.l0, Go.Proofs.YthbpjlfpfpcpbaaW.PrintWords.rd, wrap64]
    · simp [cmp_Or_int.f, cmp_Or_int.l0, Go.Proofs.YthbpjlfpfpcpbaaW.PrintWords.rd, wrap64, h2]
  · simp [cmp_Or_int.f, cmp_Or_int.l0, Go.Proofs.YthbpjlfpfpcpbaaW.PrintWords.rd, wrap64, h]

theorem hcells (w : World) (a b c d : Value) (t : TypeId) : ((w.alloc (.cells #[a, b] t)).alloc (.cells #[c, d] t)).cell? ⟨w.heap.size, 0, none⟩ = some a ∧ ((w.alloc (.cells #[a, b] t)).alloc (.cells #[c, d] t)).cell? ⟨w.heap.size, 1, none⟩ = some b ∧
    ((w.alloc (.cells #[a, b] t)).alloc (.cells #[c, d] t)).cell? ⟨w.heap.size + 1, 0, none⟩ = some c ∧ ((w.alloc (.cells #[a, b] t)).alloc (.cells #[c, d] t)).cell? ⟨w.heap.size + 1, 1, none⟩ = some d := by
  have h1 : ((w.alloc (.cells #[a, b] t)).alloc (.cells #[c, d] t)).heap[w.heap.size]? = some (.cells #[a, b] t) := (Below.heap_alloc _ _ _ (by simp)).trans (World.alloc_heap_new w _)
  have h2 : ((w.alloc (.cells #[a, b] t)).alloc (.cells #[c, d] t)).heap[w.heap.size + 1]? = some (.cells #[c, d] t) := by
    have := World.alloc_heap_new (w.alloc (.cells #[a, b] t)) (.cells #[c, d] t)
    rwa [World.size_alloc] at this
  refine ⟨?_, ?_, ?_, ?_⟩ <;> first | rw [World.cell?, h1]; rfl | rw [World.cell?, h2]; rfl

/-- The world with some draws and some blocks behind it. -/
def Gr (w w' : World) : Prop := ∃ q os', w' = grow (w.drewN q) os'
theorem Gr.refl (w : World) : Gr w w := ⟨0, #[], by rw [grow_empty]; rfl⟩
theorem Gr.alloc {w w' : World} (h : Gr w w') (o : Obj) : Gr w (w'.alloc o) := by
  obtain ⟨q, os', rfl⟩ := h
  exact ⟨q, os'.push o, by simp [grow, World.alloc]⟩
theorem Gr.drewN {w w' : World} (h : Gr w w') (n : Nat) : Gr w (w'.drewN n) := by
  obtain ⟨q, os', rfl⟩ := h
  exact ⟨q + n, os', by rw [← World.drewN_drewN]; rfl⟩
theorem Gr.drew {w w' : World} (h : Gr w w') : Gr w w'.drew := h.drewN 1

set_option maxHeartbeats 8000000 in
set_option maxRecDepth 100000 in
theorem order_grow (x y : S24) (w : World) : Calls Try.prog 20 #[ejob x, ejob y] w fun e w' => e = .returned (.int .i64 (cmpJob x y)) ∧ ∃ q os', w' = grow (w.drewN q) os' := by
  have hu24 := Try.underlying24
  have ex : ∃ t, t = cmpI x.f0 y.f0 := ⟨_, rfl⟩
  have ey : ∃ t, t = cmpI x.f1 y.f1 := ⟨_, rfl⟩
  obtain ⟨t1, e1⟩ := ex
  obtain ⟨t2, e2⟩ := ey
  have A1 := Aside0.mk (show cmp_Compare_int.f x.f0 y.f0 = some t1 by rw [e1]; exact compare_int _ _)
  have A2 := Aside0.mk (show cmp_Compare_uint8.f x.f1 y.f1 = some t2 by rw [e2]; exact compare_u8 _ _)
  have A3 := Aside0.mk (or_two t1 t2)
  have A4 := Aside0.mk (show cmpJob x y = (if t1 = 0 then t2 else t1) by unfold cmpJob; rw [e1, e2])
  rw [A4.out]
  generalize (if t1 = 0 then t2 else t1) = r at A3
  clear e1 e2 A4
  unfold ejob
  go_enter Try.func20, Try.ntmps20
  go_wp2
  have hc := hcells w (.int .i64 x.f0) (.int .u8 x.f1) (.int .i64 y.f0) (.int .u8 y.f1) 24
  have HG := Aside0.mk (((Gr.refl w).alloc (.cells #[.int .i64 x.f0, .int .u8 x.f1] 24)).alloc (.cells #[.int .i64 y.f0, .int .u8 y.f1] 24))
  generalize (w.alloc (.cells #[.int .i64 x.f0, .int .u8 x.f1] 24)).alloc (.cells #[.int .i64 y.f0, .int .u8 y.f1] 24) = W at hc HG ⊢
  have HC := Aside0.mk hc
  clear hc
  refine start_ (n := 13) (S := fun w' => w'.cell? ⟨w.heap.size, 0, none⟩ = some (.int .i64 x.f0) ∧ w'.cell? ⟨w.heap.size, 1, none⟩ = some (.int .u8 x.f1) ∧ w'.cell? ⟨w.heap.size + 1, 0, none⟩ = some (.int .i64 y.f0) ∧ w'.cell? ⟨w.heap.size + 1, 1, none⟩ = some (.int .u8 y.f1)) (ds := []) #[false, false, false, false, false, false, false, false, false, false, false, false, false] (by kernel_rfl) rfl rfl HC.out (fun hHeld => ?_)
  have HG1 := Aside0.mk HG.out.drew
  clear HG
  generalize W.drew = W1 at HG1 hHeld ⊢
  refine pure_ (i := 0) (N := some 5) (v := ?_) (a' := ?_) #[true, false, false, false, false, false, false, false, false, false, false, false, false] rfl rfl (by kernel_rfl) (fun _ _ _ h => h) (Or.inl ⟨by rfl, ?_⟩) ?_ ?_
  rotate_left
  · intro w'
    go_simp
    with_reducible rfl
  rotate_left
  · simp only [Act.put, List.setIfInBounds_toArray, List.set_cons_zero, List.set_cons_succ, i64_w, i32_w]
    rfl
  refine pure_ (i := 2) (N := some 7) (v := ?_) (a' := ?_) #[true, false, true, false, false, false, false, false, false, false, false, false, false] rfl rfl (by kernel_rfl) (fun _ _ _ h => h) (Or.inl ⟨by rfl, ?_⟩) ?_ ?_
  rotate_left
  · intro w'
    go_simp
    with_reducible rfl
  rotate_left
  · simp only [Act.put, List.setIfInBounds_toArray, List.set_cons_zero, List.set_cons_succ, i64_w, i32_w]
    rfl
  refine pure_ (i := 5) (N := some 10) (v := ?_) (a' := ?_) #[true, false, true, false, false, true, false, false, false, false, false, false, false] rfl rfl (by kernel_rfl) (fun _ _ _ h => h) (Or.inl ⟨by rfl, ?_⟩) ?_ ?_
  rotate_left
  · intro w'
    go_simp
    with_reducible rfl
  rotate_left
  · simp only [Act.put, List.setIfInBounds_toArray, List.set_cons_zero, List.set_cons_succ, i64_w, i32_w]
    rfl
  refine pure_ (i := 7) (N := some 12) (v := ?_) (a' := ?_) #[true, false, true, false, false, true, false, true, false, false, false, false, false] rfl rfl (by kernel_rfl) (fun _ _ _ h => h) (Or.inl ⟨by rfl, ?_⟩) ?_ ?_
  rotate_left
  · intro w'
    go_simp
    with_reducible rfl
  rotate_left
  · simp only [Act.put, List.setIfInBounds_toArray, List.set_cons_zero, List.set_cons_succ, i64_w, i32_w]
    rfl
  refine take_ (i := 1) (N := some 6) (v := ?_) (a' := ?_) #[true, true, true, false, false, true, false, true, false, false, false, false, false] rfl rfl (by kernel_rfl) (fun _ _ _ h => h) (Or.inl ⟨by rfl, ?_⟩) hHeld ?_ ?_
  rotate_left
  · rintro w' ⟨s0, s1, s2, s3⟩
    go_simp
    with_reducible rfl
  rotate_left
  · simp only [Act.put, List.setIfInBounds_toArray, List.set_cons_zero, List.set_cons_succ, i64_w, i32_w]
    rfl
  refine take_ (i := 3) (N := some 8) (v := ?_) (a' := ?_) #[true, true, true, true, false, true, false, true, false, false, false, false, false] rfl rfl (by kernel_rfl) (fun _ _ _ h => h) (Or.inl ⟨by rfl, ?_⟩) hHeld ?_ ?_
  rotate_left
  · rintro w' ⟨s0, s1, s2, s3⟩
    go_simp
    with_reducible rfl
  rotate_left
  · simp only [Act.put, List.setIfInBounds_toArray, List.set_cons_zero, List.set_cons_succ, i64_w, i32_w]
    rfl
  refine take_ (i := 6) (N := some 11) (v := ?_) (a' := ?_) #[true, true, true, true, false, true, true, true, false, false, false, false, false] rfl rfl (by kernel_rfl) (fun _ _ _ h => h) (Or.inl ⟨by rfl, ?_⟩) hHeld ?_ ?_
  rotate_left
  · rintro w' ⟨s0, s1, s2, s3⟩
    go_simp
    with_reducible rfl
  rotate_left
  · simp only [Act.put, List.setIfInBounds_toArray, List.set_cons_zero, List.set_cons_succ, i64_w, i32_w]
    rfl
  refine take_ (i := 8) (N := some 13) (v := ?_) (a' := ?_) #[true, true, true, true, false, true, true, true, true, false, false, false, false] rfl rfl (by kernel_rfl) (fun _ _ _ h => h) (Or.inl ⟨by rfl, ?_⟩) hHeld ?_ ?_
  rotate_left
  · rintro w' ⟨s0, s1, s2, s3⟩
    go_simp
    with_reducible rfl
  rotate_left
  · simp only [Act.put, List.setIfInBounds_toArray, List.set_cons_zero, List.set_cons_succ, i64_w, i32_w]
    rfl
  refine one_ (i := 4) (N := some 9) #[true, true, true, true, true, true, true, true, true, false, false, false, false] rfl rfl (by kernel_rfl) (by decide) (fun K hK => ?_)
  refine goes_ Try.func24 (by kernel_rfl) rfl #[.int .i64 x.f0, .int .i64 y.f0] (by rfl) rfl rfl (by (try simp only [List.map_toArray, List.map_cons, List.map_nil]); first | done | rfl | (simp only [List.length_drop, List.length_take]; rfl)) ?_
  with_reducible refine (cmp_Compare_int.calls x.f0 y.f0 t1 _ A1.out).mono ?_
  rintro e w' ⟨rfl, ⟨nd, rfl⟩⟩
  refine ⟨_, rfl, ?_⟩
  refine hK.out _ _ hHeld (fun hHeld => ?_)
  have n0_ := Aside0.mk (HG1.out.drewN nd)
  clear HG1
  have HG1 := n0_
  clear n0_
  generalize W1.drewN nd = W2 at HG1 hHeld ⊢
  clear hK K
  refine norm_ (a' := ?_) ?_ ?_
  rotate_left
  · show Act.put _ (some 9) _ = _
    simp only [Act.put, List.setIfInBounds_toArray, List.set_cons_zero, List.set_cons_succ, i64_w, i32_w]
    rfl
  refine one_ (i := 9) (N := some 14) #[true, true, true, true, true, true, true, true, true, true, false, false, false] rfl rfl (by kernel_rfl) (by decide) (fun K hK => ?_)
  refine goes_ Try.func25 (by kernel_rfl) rfl #[.int .u8 x.f1, .int .u8 y.f1] (by rfl) rfl rfl (by (try simp only [List.map_toArray, List.map_cons, List.map_nil]); first | done | rfl | (simp only [List.length_drop, List.length_take]; rfl)) ?_
  with_reducible refine (cmp_Compare_uint8.calls x.f1 y.f1 t2 _ A2.out).mono ?_
  rintro e w' ⟨rfl, ⟨nd, rfl⟩⟩
  refine ⟨_, rfl, ?_⟩
  refine hK.out _ _ hHeld (fun hHeld => ?_)
  have n0_ := Aside0.mk (HG1.out.drewN nd)
  clear HG1
  have HG1 := n0_
  clear n0_
  generalize W2.drewN nd = W3 at HG1 hHeld ⊢
  clear hK K
  refine norm_ (a' := ?_) ?_ ?_
  rotate_left
  · show Act.put _ (some 14) _ = _
    simp only [Act.put, List.setIfInBounds_toArray, List.set_cons_zero, List.set_cons_succ, i64_w, i32_w]
    rfl
  refine one_ (i := 10) (N := some 15) #[true, true, true, true, true, true, true, true, true, true, true, false, false] rfl rfl (by kernel_rfl) (by decide) (fun K hK => ?_)
  rw [if_pos (by rfl)]
  unfold Oper.wp
  go_simp
  have hbl : Below W3.heap.size W3 (W3.alloc (.cells #[.int .i64 t1, .int .i64 t2] 3)) := (Below.refl _ _).alloc (Nat.le_refl _) _
  refine hK.out _ _ ⟨pw_cell_below hbl hHeld.1, pw_cell_below hbl hHeld.2.1, pw_cell_below hbl hHeld.2.2.1, pw_cell_below hbl hHeld.2.2.2⟩ (fun hHeld => ?_)
  have HO : Aside0 (Kd.C (Kd.int .i64) (W3.alloc (.cells #[.int .i64 t1, .int .i64 t2] 3)) (some ⟨W3.heap.size, 0, none⟩) 2 [t1, t2]) := by
    have h := Kd.R_of_own (h1 := fun _ => rfl) (enc := Value.int .i64) (own_lit W3 0 3 .i64 [t1, t2] (Nat.zero_le _) (by simp)) (ok := fun _ => True) (fun _ _ => trivial)
    exact ⟨(Kd.R_reads' h).2.2⟩
  have n0_ := Aside0.mk (HG1.out.alloc (.cells #[.int .i64 t1, .int .i64 t2] 3))
  clear HG1 hbl
  have HG1 := n0_
  clear n0_
  generalize hsz : W3.heap.size = B at HO ⊢
  clear hsz
  generalize W3.alloc (.cells #[.int .i64 t1, .int .i64 t2] 3) = W4 at HG1 HO hHeld ⊢
  clear hK K
  refine one_ (i := 11) (N := some 16) #[true, true, true, true, true, true, true, true, true, true, true, true, false] rfl rfl (by kernel_rfl) (by decide) (fun K hK => ?_)
  refine goes_ Try.func23 (by kernel_rfl) rfl #[.slice (some ⟨B, 0, none⟩) 2 2] (by rfl) rfl rfl (by (try simp only [List.map_toArray, List.map_cons, List.map_nil]); first | done | rfl) ?_
  have hcall : Calls Try.prog 23 #[.slice (some ⟨B, 0, none⟩) 2 2] W4 _ := cmp_Or_int.calls 3 (some ⟨B, 0, none⟩) 2 [t1, t2] r _ HO.out (by simp) A3.out
  with_reducible refine hcall.mono ?_
  clear hcall
  rintro e w' ⟨rfl, ⟨nd, rfl⟩⟩
  refine ⟨_, rfl, ?_⟩
  refine hK.out _ _ hHeld (fun hHeld => ?_)
  have n0_ := Aside0.mk (HG1.out.drewN nd)
  clear HG1
  have HG1 := n0_
  clear n0_ HO
  generalize W4.drewN nd = W5 at HG1 hHeld ⊢
  clear hK K
  refine norm_ (a' := ?_) ?_ ?_
  rotate_left
  · show Act.put _ (some 16) _ = _
    simp only [Act.put, List.setIfInBounds_toArray, List.set_cons_zero, List.set_cons_succ, i64_w, i32_w]
    rfl
  refine pure_ (i := 12) (N := some 4) (v := ?_) (a' := ?_) #[true, true, true, true, true, true, true, true, true, true, true, true, true] rfl rfl (by kernel_rfl) (fun _ _ _ h => h) (Or.inl ⟨by rfl, ?_⟩) ?_ ?_
  rotate_left
  · intro w'
    go_simp
    with_reducible rfl
  rotate_left
  · simp only [Act.put, List.setIfInBounds_toArray, List.set_cons_zero, List.set_cons_succ, i64_w, i32_w]
    rfl
  refine done_ (by kernel_rfl) ?_
  try go_wp2
  go_ret
  exact ⟨rfl, HG1.out⟩
end Go.Proofs.Ythbpjlfpfpcpbaa.P

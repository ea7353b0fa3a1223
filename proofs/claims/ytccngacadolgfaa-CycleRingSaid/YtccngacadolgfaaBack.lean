/- cycle.far: how many steps it is from each place to one. Condition: at most 100 rows of at most 100 places, every place a row's, the one too; at most 1000000 new places a step. -/
import Derived.Test.YtccngacadolgfaaFar
import Derived.Deep.DeepFit
set_option linter.unusedVariables false
set_option linter.unusedSimpArgs false
namespace Go.Proofs.Ytccngacadolgfaa.P
open Go.RowKit Go.Proofs.YtccngacadolgfaaW.PrintWords Go.Proofs.YtccngacadolgfaaW.PrintLast Go.Proofs.YtccngacadolgfaaW.PrintMore

abbrev kii : Kd (List Int) := Kd.slice 3 (Kd.int .i64)
def backStep (i : Nat) (b : List (List Int)) (k : Int) : List (List Int) := b.set k.toNat (rd_L1 b k ++ [(i : Int)])
def backTo (nx : List (List Int)) : Nat → List (List Int)
  | 0 => List.replicate nx.length []
  | j + 1 => (rd_L1 nx (j : Int)).foldl (backStep j) (backTo nx j)
def OkTo (nx : List (List Int)) : Prop := nx.length ≤ 100 ∧ ∀ row ∈ nx, row.length ≤ 100 ∧ ∀ k ∈ row, 0 ≤ k ∧ k < nx.length

theorem backStep_len (i : Nat) (b : List (List Int)) (k : Int) : (backStep i b k).length = b.length := by simp [backStep]
theorem backFold_len (i : Nat) (row : List Int) (b : List (List Int)) : (row.foldl (backStep i) b).length = b.length := by
  induction row generalizing b with
  | nil => rfl
  | cons k row ih => rw [List.foldl_cons, ih, backStep_len]
theorem backTo_len (nx : List (List Int)) (j : Nat) : (backTo nx j).length = nx.length := by
  induction j with
  | zero => simp [backTo]
  | succ j ih => rw [backTo, backFold_len, ih]
theorem rdL_set (b : List (List Int)) (k m : Int) (x : List Int) : (rd_L1 (b.set k.toNat x) m).length ≤ max (rd_L1 b m).length x.length := by
  unfold rd_L1
  rw [List.getD_eq_getElem?_getD, List.getD_eq_getElem?_getD, List.getElem?_set]
  split
  · split <;> simp <;> omega
  · omega
theorem backStep_row {b : List (List Int)} {n : Nat} (i : Nat) (k : Int) (h : ∀ m, (rd_L1 b m).length ≤ n) : ∀ m, (rd_L1 (backStep i b k) m).length ≤ n + 1 := fun m => by
  have h1 := rdL_set b k m (rd_L1 b k ++ [(i : Int)])
  have h2 := h m
  have h3 := h k
  simp only [List.length_append, List.length_singleton] at h1
  unfold backStep
  omega
theorem backFold_row (i : Nat) : ∀ (row : List Int) (b : List (List Int)) (n : Nat), (∀ m, (rd_L1 b m).length ≤ n) → ∀ m, (rd_L1 (row.foldl (backStep i) b) m).length ≤ n + row.length
  | [], b, n, h => by simpa using h
  | k :: row, b, n, h => fun m => by
    rw [List.foldl_cons]
    have := backFold_row i row _ _ (backStep_row i k h) m
    simp only [List.length_cons]
    omega
theorem rdL_len {nx : List (List Int)} (h : OkTo nx) (j : Int) : (rd_L1 nx j).length ≤ 100 := by
  unfold rd_L1
  rw [List.getD_eq_getElem?_getD]
  rcases Nat.lt_or_ge j.toNat nx.length with hj | hj
  · rw [List.getElem?_eq_getElem hj]
    exact (h.2 _ (List.getElem_mem hj)).1
  · rw [List.getElem?_eq_none hj]
    simp
theorem rdL_mem {nx : List (List Int)} (h : OkTo nx) (j : Int) : ∀ k ∈ rd_L1 nx j, 0 ≤ k ∧ k < nx.length := by
  unfold rd_L1
  rw [List.getD_eq_getElem?_getD]
  rcases Nat.lt_or_ge j.toNat nx.length with hj | hj
  · rw [List.getElem?_eq_getElem hj]
    exact (h.2 _ (List.getElem_mem hj)).2
  · rw [List.getElem?_eq_none hj]
    simp
theorem backTo_row {nx : List (List Int)} (h : OkTo nx) (j : Nat) : ∀ m, (rd_L1 (backTo nx j) m).length ≤ j * 100 := by
  induction j with
  | zero => intro m; unfold rd_L1 backTo; rw [List.getD_eq_getElem?_getD, List.getElem?_replicate]; split <;> simp
  | succ j ih =>
    intro m
    have h1 := backFold_row j (rd_L1 nx j) _ _ ih m
    have h2 := rdL_len h (j : Int)
    rw [backTo]
    omega

theorem backTo_mem {nx : List (List Int)} (j : Nat) : ∀ m, ∀ k ∈ rd_L1 (backTo nx j) m, 0 ≤ k ∧ k < (j : Int) := by
  induction j with
  | zero => intro m k hk; unfold rd_L1 backTo at hk; rw [List.getD_eq_getElem?_getD, List.getElem?_replicate] at hk; split at hk <;> simp at hk
  | succ j ih =>
    have h : ∀ (row : List Int) (b : List (List Int)), (∀ m, ∀ k ∈ rd_L1 b m, 0 ≤ k ∧ k < ((j + 1 : Nat) : Int)) → ∀ m, ∀ k ∈ rd_L1 (row.foldl (backStep j) b) m, 0 ≤ k ∧ k < ((j + 1 : Nat) : Int) := by
      intro row
      induction row with
      | nil => intro b h; exact h
      | cons x row ihr =>
        intro b h
        rw [List.foldl_cons]
        refine ihr _ ?_
        intro m k hk
        unfold backStep rd_L1 at hk
        rw [List.getD_eq_getElem?_getD, List.getElem?_set] at hk
        split at hk
        · split at hk
          · simp only [Option.getD_some, List.mem_append, List.mem_singleton] at hk
            rcases hk with hk | rfl
            · exact h x k hk
            · omega
          · simp at hk
        · exact h m k (by unfold rd_L1; rw [List.getD_eq_getElem?_getD]; exact hk)
    intro m
    rw [backTo]
    refine h _ _ (fun m k hk => ?_) m
    have := ih m k hk
    omega
/-- One place of those to go on from. -/
def expandF (b : List (List Int)) (home n : Int) (p : List (Int × Int) × List Int) (k : Int) : List (Int × Int) × List Int := if k = home then p else ((goesF home n p.1 (rd_L1 b k)).1, p.2 ++ (goesF home n p.1 (rd_L1 b k)).2)
def farGo (b : List (List Int)) (home : Int) : Nat → Int → List (Int × Int) → List Int → Option (List (Int × Int))
  | 0, _, _, _ => none
  | f + 1, n, st, todo => if todo = [] then some st else if (todo.foldl (expandF b home n) (st, [])).2.length ≤ 1000000 then farGo b home f (n + 1) (todo.foldl (expandF b home n) (st, [])).1 (todo.foldl (expandF b home n) (st, [])).2 else none
def farF (nx : List (List Int)) (home : Int) : Option (List (Int × Int)) := farGo (backTo nx nx.length) home 1000 2 (goesF home 1 [] (rd_L1 (backTo nx nx.length) home)).1 (goesF home 1 [] (rd_L1 (backTo nx nx.length) home)).2
theorem expand_len (b : List (List Int)) (home n : Int) : ∀ (l : List Int) (p : List (Int × Int) × List Int), p.2.length ≤ (l.foldl (expandF b home n) p).2.length
  | [], p => Nat.le_refl _
  | k :: l, p => by
    rw [List.foldl_cons]
    refine Nat.le_trans ?_ (expand_len b home n l _)
    unfold expandF
    split
    · exact Nat.le_refl _
    · simp
theorem goes_mem (home n : Int) (row : List Int) (st : List (Int × Int)) : ∀ k ∈ (goesF home n st row).2, k ∈ row := by
  have h : ∀ (row : List Int) (p : List (Int × Int) × List Int), ∀ k ∈ (row.foldl (goes1 home n) p).2, k ∈ p.2 ∨ k ∈ row := by
    intro row
    induction row with
    | nil => intro p k hk; exact .inl hk
    | cons x row ih =>
      intro p k hk
      rw [List.foldl_cons] at hk
      rcases ih _ k hk with h | h
      · unfold goes1 at h
        split at h
        · rcases List.mem_append.1 h with h | h
          · exact .inl h
          · exact .inr (by rw [List.mem_singleton.1 h]; exact List.mem_cons_self)
        · exact .inl h
      · exact .inr (List.mem_cons_of_mem _ h)
  intro k hk
  rcases h row (st, []) k hk with h | h
  · cases h
  · exact h
theorem expand_mem {b : List (List Int)} {home n : Int} {N : Int} (hb : ∀ m, ∀ k ∈ rd_L1 b m, 0 ≤ k ∧ k < N) : ∀ (l : List Int) (p : List (Int × Int) × List Int), (∀ k ∈ p.2, 0 ≤ k ∧ k < N) → ∀ k ∈ (l.foldl (expandF b home n) p).2, 0 ≤ k ∧ k < N
  | [], p, h => h
  | x :: l, p, h => by
    rw [List.foldl_cons]
    refine expand_mem hb l _ ?_
    unfold expandF
    split
    · exact h
    · intro k hk
      rcases List.mem_append.1 hk with hk | hk
      · exact h k hk
      · exact hb x k (goes_mem home n _ _ k hk)
theorem keep_below {w w1 w2 : World} {bm : Nat} (h : Below w.heap.size w w1) (h2 : Below bm w1 w2) (hb : w.heap.size ≤ bm) : Below w.heap.size w w2 :=
  ⟨h2.os.trans h.os, h2.tape.trans h.tape, h2.output.trans h.output, Nat.le_trans h.size h2.size, fun k hk => (h2.block k (by omega)).trans (h.block k hk)⟩

set_option maxRecDepth 100000 in
set_option maxHeartbeats 8000000 in
theorem far_calls (A0 : Option Addr) (c0 : Nat) (nx : List (List Int)) (home : Int) (w : World) (hr0 : Kd.C kii w A0 nx.length nx) (hc0 : nx.length ≤ c0) (hto : OkTo nx) (hh0 : 0 ≤ home) (hh1 : home < nx.length) (r : List (Int × Int)) (hf : farF nx home = some r) :
    Calls Try.prog 29 #[.slice A0 nx.length c0, .int .i64 home] w fun e w' => ∃ bm, e = .returned (.map (some bm)) ∧ Mp.At w' bm eint (mpi r) ∧ w.heap.size ≤ bm ∧ Below w.heap.size w w' := by
  have HC := Aside0.mk hr0
  have HT := Aside0.mk hto
  have hmm := @run_makeMap Try.prog
  have hlen := hto.1
  have HF0 := Aside0.mk hf
  clear hr0 hto hf
  go_enter Try.func29, Try.ntmps29
  go_wp2_with (first
   | ((with_reducible refine gate_dst (N := 19) rfl ?_); obtain ⟨w1, hw1⟩ : ∃ w1, w1 = w.alloc (.cells #[.int .i64 home] 3) := ⟨_, rfl⟩; rw [← hw1]; refine Kd.S_make kii (w0 := w1) w1.heap.size 34 rfl (N := 19) rfl 22 _ _ rfl (nx.length : Int) rfl rfl Try.underlying22 (.slice none 0 0) 24 info34 rfl (by decide) (by omega) [] (ok := fun _ => True) (okp := fun _ => True) ⟨_, rfl, Kd.R_nil _ _ _ _ _⟩ (fun _ hk => hk) trivial (by omega) (by omega) (Below.refl _ _) (Nat.le_refl _) ?_; intro v2 w2 ho2 hb2 hg2 hn2; obtain ⟨g, cp, rfl, hgb, hgl, cells, hcl⟩ := Kd.S_form ho2 (by simp; omega); simp only [List.length_replicate, Int.toNat_natCast] at ho2; have HO := Aside0.mk ho2; have HB := Aside0.mk hb2; clear ho2 hb2 hg2 hn2 hcl))
  have HB0 := Aside0.mk (show Below w.heap.size w w1 by rw [hw1]; exact below_alloc (Below.refl _ _) _)
  have HH0 := Aside0.mk (show w1.cell? ⟨w.heap.size, 0, none⟩ = some (.int .i64 home) by rw [hw1]; exact new1 w _ _)
  clear hw1
  go_loopw [22] (fun i wr => ∃ j : Nat, j ≤ nx.length ∧ i = .int .i64 j ∧ Aside0 (Kd.S kii 34 wr w1.heap.size (fun _ => True) (.slice (some ⟨g, 0, none⟩) nx.length cp) (backTo nx j)) ∧ Aside0 (wr.heap[w2.heap.size]? = some (.cells #[.slice (some ⟨g, 0, none⟩) nx.length cp] 22 (0, 0))) ∧ Aside0 (Below w1.heap.size w1 wr)) (fun i _ => nx.length - (intOf i).toNat)
  case atStart => exact ⟨0, Nat.zero_le _, rfl, ⟨Kd.S_alloc HO.out _⟩, ⟨blk_new _ _⟩, ⟨below_alloc HB.out _⟩⟩
  case round =>
    obtain ⟨j, hj, rfl, HO, HBk, HB⟩ := hrel
    by_cases hlt : j < nx.length
    · obtain ⟨row, hrow⟩ : ∃ row, row = rd_L1 nx j := ⟨_, rfl⟩
      obtain ⟨ad, Ar, cr, e1, hx0, hcr, hCr⟩ := at_L1 HC.out j (by omega) (by omega)
      cases e1
      replace hx0 := (HB.out.cell (World.block_lt_of_cell? w1 _ ((HB0.out.cell (World.block_lt_of_cell? w _ hx0)).trans hx0))).trans ((HB0.out.cell (World.block_lt_of_cell? w _ hx0)).trans hx0)
      have hrl := rdL_len HT.out j
      have hrm := rdL_mem HT.out j
      rw [← hrow] at hx0 hcr hCr hrl hrm
      simp only [Int.toNat_natCast] at hx0
      have HCr := Aside0.mk hCr
      have HRm := Aside0.mk hrm
      have HRow := Aside0.mk hrow
      clear hCr hrm hrow
      go_wp2
      go_loopw [29] (fun i wr => ∃ m : Nat, m ≤ row.length ∧ i = .int .i64 m ∧ Aside0 (Kd.S kii 34 wr w1.heap.size (fun _ => True) (.slice (some ⟨g, 0, none⟩) nx.length cp) ((row.take m).foldl (backStep j) (backTo nx j))) ∧ Aside0 (wr.heap[w2.heap.size]? = some (.cells #[.slice (some ⟨g, 0, none⟩) nx.length cp] 22 (0, 0))) ∧ Aside0 (Below w1.heap.size w1 wr)) (fun i _ => row.length - (intOf i).toNat)
      case atStart => exact ⟨0, Nat.zero_le _, rfl, HO, HBk, HB⟩
      case round =>
        clear HO HBk HB hx0
        obtain ⟨m, hm, rfl, HO, HBk, HB⟩ := hrel
        by_cases hlm : m < row.length
        · obtain ⟨x, hx⟩ : ∃ x, x = rd row m := ⟨_, rfl⟩
          obtain ⟨ad2, e2, hy0⟩ := Kd.at_int HCr.out m (by omega) (by omega)
          cases e2
          replace hy0 := (HB0.out.cell (World.block_lt_of_cell? w _ hy0)).trans hy0
          replace hy0 := (HB.out.cell (World.block_lt_of_cell? w1 _ hy0)).trans hy0
          rw [← hx] at hy0
          simp only [Int.toNat_natCast] at hy0
          have hxm : x ∈ row := by rw [hx]; unfold rd; rw [Int.toNat_natCast, List.getD_eq_getElem?_getD, List.getElem?_eq_getElem hlm]; exact List.getElem_mem hlm
          obtain ⟨px, qx⟩ := HRm.out x hxm
          obtain ⟨b, hb⟩ : ∃ b, b = (row.take m).foldl (backStep j) (backTo nx j) := ⟨_, rfl⟩
          have hbx : (row.take (m + 1)).foldl (backStep j) (backTo nx j) = b.set x.toNat (rd_L1 b x ++ [(j : Int)]) := by
            rw [take_snoc row m 0 hlm, List.foldl_append, ← hb, hx]
            rfl
          have hbl : (rd_L1 b x).length ≤ 10000 := by
            rw [hb]
            have h1 := backFold_row j (row.take m) _ _ (backTo_row HT.out j) x
            simp only [List.length_take] at h1
            omega
          rw [← hb] at HO
          have HLx := Aside0.mk hbl
          have HBx := Aside0.mk hbx
          clear hx hxm hb hbx hbl
          obtain ⟨wd, hwd⟩ : ∃ wd, wd = wr.drew := ⟨_, rfl⟩
          have HOd := Aside0.mk (show Kd.S kii 34 wd w1.heap.size (fun _ => True) (.slice (some ⟨g, 0, none⟩) nx.length cp) b by rw [hwd]; exact Kd.S_drew HO.out)
          have HBkd := Aside0.mk (show wd.heap[w2.heap.size]? = some (.cells #[.slice (some ⟨g, 0, none⟩) nx.length cp] 22 (0, 0)) by rw [hwd]; exact HBk.out)
          have HBd := Aside0.mk (show Below w1.heap.size w1 wd by rw [hwd]; exact below_drew HB.out)
          go_upto_region 8 with (fail)
          obtain ⟨oki, ce, hcl, hM, hcc, hfr, hoki, hH⟩ := Kd.S_elem HOd.out [] x px (by omega)
          obtain ⟨ve, rfl, ge⟩ := hM
          obtain ⟨Ax, cx, rfl⟩ := Kd.R_slice ge
          have hrx : wd.cell? ⟨g, x.toNat, none⟩ = some (.slice Ax (rd_L1 b x).length cx) := by
            have h_ := hcc 0 _ rfl
            rwa [Nat.add_zero, show (kii).sz = 1 from rfl, Nat.mul_one] at h_
          have HRx := Aside0.mk (show Kd.R (Kd.int .i64) 3 wd w1.heap.size oki (.slice Ax (rd_L1 b x).length cx) (rd_L1 b x) from ge)
          have HHx := Aside0.mk hH
          have hbx : wd.cell? ⟨w2.heap.size, 0, none⟩ = some (.slice (some ⟨g, 0, none⟩) nx.length cp) := (blk_cell HBkd.out 0).trans rfl
          have pxe := eq_true px
          have qxe := eq_true qx
          clear hcc hfr hH ge hcl hoki HO HBk HB
          rw [hwd] at hbx hrx
          refine start_ (n := 11) (S := fun w' => w'.cell? ⟨w2.heap.size, 0, none⟩ = some (.slice (some ⟨g, 0, none⟩) nx.length cp) ∧ w'.cell? ⟨g, x.toNat, none⟩ = some (.slice Ax (rd_L1 b x).length cx)) (ds := [10]) #[false, false, false, false, false, false, false, false, false, false, false] (by kernel_rfl) rfl rfl ⟨hbx, hrx⟩ (fun hHeld => ?_)
          rw [← hwd] at hHeld ⊢
          clear hbx hrx hwd
          refine pure_ (i := 1) (N := (some 34)) (v := ?_) (a' := ?_) #[false, true, false, false, false, false, false, false, false, false, false] rfl rfl (by kernel_rfl) (fun _ _ _ h => h) (Or.inl ⟨by rfl, ?_⟩) ?_ ?_
          rotate_left
          · intro w'
            go_simp
            with_reducible rfl
          rotate_left
          · simp only [Act.put, List.setIfInBounds_toArray, List.set_cons_zero, List.set_cons_succ, i64_w, i32_w]
            rfl
          refine pure_ (i := 3) (N := (some 36)) (v := ?_) (a' := ?_) #[false, true, false, true, false, false, false, false, false, false, false] rfl rfl (by kernel_rfl) (fun _ _ _ h => h) (Or.inl ⟨by rfl, ?_⟩) ?_ ?_
          rotate_left
          · intro w'
            go_simp
            with_reducible rfl
          rotate_left
          · simp only [Act.put, List.setIfInBounds_toArray, List.set_cons_zero, List.set_cons_succ, i64_w, i32_w]
            rfl
          refine pure_ (i := 6) (N := (some 39)) (v := ?_) (a' := ?_) #[false, true, false, true, false, false, true, false, false, false, false] rfl rfl (by kernel_rfl) (fun _ _ _ h => h) (Or.inl ⟨by rfl, ?_⟩) ?_ ?_
          rotate_left
          · intro w'
            go_simp
            with_reducible rfl
          rotate_left
          · simp only [Act.put, List.setIfInBounds_toArray, List.set_cons_zero, List.set_cons_succ, i64_w, i32_w]
            rfl
          refine take_ (i := 0) (N := (some 33)) (v := ?_) (a' := ?_) #[true, true, false, true, false, false, true, false, false, false, false] rfl rfl (by kernel_rfl) (fun _ _ _ h => h) (Or.inl ⟨by rfl, ?_⟩) hHeld ?_ ?_
          rotate_left
          · rintro w' ⟨s0, s1⟩
            go_simp
            with_reducible rfl
          rotate_left
          · simp only [Act.put, List.setIfInBounds_toArray, List.set_cons_zero, List.set_cons_succ, i64_w, i32_w]
            rfl
          refine take_ (i := 2) (N := (some 35)) (v := ?_) (a' := ?_) #[true, true, true, true, false, false, true, false, false, false, false] rfl rfl (by kernel_rfl) (fun _ _ _ h => h) (Or.inl ⟨by rfl, ?_⟩) hHeld ?_ ?_
          rotate_left
          · rintro w' ⟨s0, s1⟩
            go_simp
            with_reducible rfl
          rotate_left
          · simp only [Act.put, List.setIfInBounds_toArray, List.set_cons_zero, List.set_cons_succ, i64_w, i32_w]
            rfl
          refine pure_ (i := 4) (N := (some 37)) (v := ?_) (a' := ?_) #[true, true, true, true, true, false, true, false, false, false, false] rfl rfl (by kernel_rfl) (fun _ _ _ h => h) (Or.inl ⟨by rfl, ?_⟩) ?_ ?_
          rotate_left
          · intro w'
            go_simp
            with_reducible rfl
          rotate_left
          · simp only [Act.put, List.setIfInBounds_toArray, List.set_cons_zero, List.set_cons_succ, i64_w, i32_w]
            rfl
          refine take_ (i := 5) (N := (some 38)) (v := ?_) (a' := ?_) #[true, true, true, true, true, true, true, false, false, false, false] rfl rfl (by kernel_rfl) (fun _ _ _ h => h) (Or.inl ⟨by rfl, ?_⟩) hHeld ?_ ?_
          rotate_left
          · rintro w' ⟨s0, s1⟩
            go_simp
            with_reducible rfl
          rotate_left
          · simp only [Act.put, List.setIfInBounds_toArray, List.set_cons_zero, List.set_cons_succ, i64_w, i32_w]
            rfl
          refine one_ (i := 7) (N := (some 40)) #[true, true, true, true, true, true, true, true, false, false, false] rfl rfl (by kernel_rfl) (by decide) (fun K hK => ?_)
          rw [if_pos (by rfl)]
          unfold Oper.wp
          go_simp
          refine hK.out _ _ ⟨pw_cell_below (below_alloc (Below.refl _ _) _) hHeld.1, pw_cell_below (below_alloc (Below.refl _ _) _) hHeld.2⟩ (fun hHeld => ?_)
          clear hK K
          try (refine norm_ (a' := ?_) ?_ ?_; rotate_left; (first | (show Act.put _ _ _ = _; simp only [Act.put, List.setIfInBounds_toArray, List.set_cons_zero, List.set_cons_succ, i64_w, i32_w]; rfl) | rfl))
          refine one_ (i := 8) (N := (some 41)) #[true, true, true, true, true, true, true, true, true, false, false] rfl rfl (by kernel_rfl) (by decide) (fun K hK => ?_)
          refine Kd.R_append_step (Kd.int .i64) (w0 := w1) w1.heap.size (by rfl) (.tmp 38) (.tmp 40) 34 3 (.int .i64 0) 8 rfl Try.underlying34 info3 rfl (by decide) (by omega) (.slice Ax (rd_L1 b x).length cx) (rd_L1 b x) (j : Int) [.int .i64 (j : Int)] (fun k_ => oki k_ ∨ True ∧ wd.heap.size ≤ k_) (fun _ => False) rfl rfl rfl (fun _ hk => hk.elim) (fun k_ hk => .inr ⟨trivial, hk⟩) (Kd.R_mono HRx.out (fun _ hk => .inl hk)) HBd.out HBd.out.size (by have := HLx.out; omega) ?_
          intro v5 w5 ho hb hg hat
          obtain ⟨A5, c5, rfl⟩ := Kd.R_slice ho
          have HO5 := Aside0.mk ho
          have HB5 := Aside0.mk hb
          have hnb := Kd.R_ne HRx.out HBkd.out (by decide)
          have HBk5 := Aside0.mk (blk_grown HBkd.out hg hnb)
          have HH5 := Aside0.mk (Kd.H_grown (Kd.H_widen HHx.out) hg (fun k_ e_ => .inl (HRx.out.1 k_ e_)))
          have hat5 := Kd.H_at HH5.out px qx
          have hc5 : w5.cell? ⟨g, x.toNat, none⟩ = some (.slice Ax (rd_L1 b x).length cx) := by have h_ := hat5.1 0 _ rfl; rwa [Nat.add_zero, show (kii).sz = 1 from rfl, Nat.mul_one] at h_
          have hf5 : w5.frozen? ⟨g, x.toNat, none⟩ = false := by have h_ := hat5.2 0; rwa [Nat.add_zero, show (kii).sz = 1 from rfl, Nat.mul_one] at h_
          have hbc5 := (blk_cell HBk5.out 0).trans rfl
          clear ho hb hg hat hat5 hnb
          refine hK.out _ _ ⟨hbc5, hc5⟩ (fun hHeld => ?_)
          clear hK K
          try (refine norm_ (a' := ?_) ?_ ?_; rotate_left; (first | (show Act.put _ _ _ = _; simp only [Act.put, List.setIfInBounds_toArray, List.set_cons_zero, List.set_cons_succ, i64_w, i32_w]; rfl) | rfl))
          refine pure_ (i := 9) (N := (some 42)) (v := ?_) (a' := ?_) #[true, true, true, true, true, true, true, true, true, true, false] rfl rfl (by kernel_rfl) (fun _ _ _ h => h) (Or.inl ⟨by rfl, ?_⟩) ?_ ?_
          rotate_left
          · intro w'
            go_simp
            with_reducible rfl
          rotate_left
          · simp only [Act.put, List.setIfInBounds_toArray, List.set_cons_zero, List.set_cons_succ, i64_w, i32_w]
            rfl
          refine last_ (i := 10) (N := none) #[true, true, true, true, true, true, true, true, true, true, true] rfl rfl (by kernel_rfl) (by decide) (fun K hK => ?_)
          rw [if_pos (by rfl)]
          unfold Oper.wp
          go_simp
          refine hK.out _ _ ?_
          clear hK K
          try (refine norm_ (a' := ?_) ?_ ?_; rotate_left; (first | (show Act.put _ _ _ = _; simp only [Act.put, List.setIfInBounds_toArray, List.set_cons_zero, List.set_cons_succ, i64_w, i32_w]; rfl) | rfl))
          refine done_ (by kernel_rfl) ?_
          have HP := Kd.S_seg0 HH5.out px (by omega) (seg := [.slice A5 (rd_L1 b x ++ [(j : Int)]).length c5]) (j := 0) (show 1 ≤ 1 by decide) (x' := rd_L1 b x ++ [(j : Int)]) (Kd.M_row HO5.out) (fun _ hk => hk)
          simp only [show (kii).sz = 1 from rfl, Nat.mul_one, Nat.add_zero, List.length_append, List.length_singleton] at HP
          go_wp2
          go_roundw
          case rel => exact ⟨m + 1, hlm, by go_num, ⟨by rw [HBx.out]; exact HP.1⟩, ⟨blk_far HBk5.out (by show w2.heap.size ≠ g; omega) _⟩, ⟨HB5.out.setCell (p := ⟨g, x.toNat, none⟩) hgb _⟩⟩
          case measure => simp [intOf]; omega
        · have hmr : m = row.length := by omega
          subst hmr
          rw [List.take_length] at HO
          go_wp2
          go_roundw
          case rel => exact ⟨j + 1, hlt, by go_num, ⟨by show Kd.S kii _ _ _ _ _ ((rd_L1 nx j).foldl (backStep j) (backTo nx j)); rw [← HRow.out]; exact HO.out⟩, HBk, HB⟩
          case measure => simp [intOf]; omega
    · have hjn : j = nx.length := by omega
      subst hjn
      go_upto_region 13 with (fail)
      obtain ⟨b, hb⟩ : ∃ b, b = backTo nx nx.length := ⟨_, rfl⟩
      have hbL : b.length = nx.length := by rw [hb, backTo_len]
      have hbr : ∀ m, (rd_L1 b m).length ≤ 10000 := fun m => by rw [hb]; have := backTo_row HT.out nx.length m; omega
      have hbm : ∀ m, ∀ k ∈ rd_L1 b m, 0 ≤ k ∧ k < (nx.length : Int) := by rw [hb]; exact backTo_mem nx.length
      have hfg : farGo b home 1000 2 (goesF home 1 [] (rd_L1 b home)).1 (goesF home 1 [] (rd_L1 b home)).2 = some r := by rw [hb]; exact HF0.out
      rw [← hb] at HO
      obtain ⟨W0, hW0⟩ : ∃ W0, W0 = (wr.alloc (.map #[] 0)).alloc (.cells #[.map (some wr.heap.size)] 64) := ⟨_, rfl⟩
      rw [← hW0]
      have hAt0 : Mp.At W0 wr.heap.size eint (mpi []) := by rw [hW0]; exact (Mp.At.made wr eint).alloc _
      have hS0 : Kd.S kii 34 W0 w1.heap.size (fun k => True ∧ k ≠ wr.heap.size) (.slice (some ⟨g, 0, none⟩) nx.length cp) b := by rw [hW0]; exact Kd.S_alloc (Kd.S_alloc (Kd.S_elderB HO.out _ (Nat.le_refl _)) _) _
      have hbw0 : Below w1.heap.size w1 W0 := by rw [hW0]; exact below_alloc (below_alloc HB.out _) _
      have hbx0 : W0.cell? ⟨w2.heap.size, 0, none⟩ = some (.slice (some ⟨g, 0, none⟩) nx.length cp) := by rw [hW0]; exact (blk_cell (blk_alloc (blk_alloc HBk.out _) _) 0).trans rfl
      have hst0 : W0.cell? ⟨wr.heap.size + 1, 0, none⟩ = some (.map (some wr.heap.size)) := by
        have h_ := new1 (wr.alloc (.map #[] 0)) (.map (some wr.heap.size)) 64
        rw [World.size_alloc] at h_
        rw [hW0]
        exact h_
      have hho0 : W0.cell? ⟨w.heap.size, 0, none⟩ = some (.int .i64 home) := (hbw0.cell (World.block_lt_of_cell? w1 _ HH0.out)).trans HH0.out
      have hsz0 : w.heap.size ≤ wr.heap.size := Nat.le_trans HB0.out.size HB.out.size
      obtain ⟨bm, hbmE⟩ : ∃ bm, bm = wr.heap.size := ⟨_, rfl⟩
      obtain ⟨Bs, hBsE⟩ : ∃ Bs, Bs = wr.heap.size + 1 := ⟨_, rfl⟩
      rw [← hBsE] at hst0 ⊢
      rw [← hbmE] at hAt0 hS0 hst0 hsz0 ⊢
      have HAt0 := Aside0.mk hAt0
      have HS0 := Aside0.mk hS0
      have HBr := Aside0.mk hbr
      have HBm := Aside0.mk hbm
      have HBW0 := Aside0.mk (show Below w.heap.size w W0 from below_then HB0.out HB0.out.size hbw0)
      have HFg := Aside0.mk hfg
      clear hW0 hb HF0 HO hBsE hbmE hAt0 hS0 hbr hbm hbw0 HBk HB hfg
      -- the row of a place, at a later world
      have hrowAt : ∀ (wx : World), KeepBut W0 wx bm none → ∀ k : Int, 0 ≤ k → k < nx.length → ∃ Ak ck, wx.cell? ⟨g, k.toNat, none⟩ = some (.slice Ak (rd_L1 b k).length ck) ∧ Kd.C (Kd.int .i64) wx Ak (rd_L1 b k).length (rd_L1 b k) := by
        intro wx hk k h0 h1
        have hSx := Kd.S_keep HS0.out hk (fun _ h => h.2)
        obtain ⟨adk, Ak, ck, e, hck, _, hCk⟩ := at_L1 (Kd.S_reads' hSx).2.2 k h0 (by omega)
        cases e
        simp only [add_plain] at hck
        exact ⟨Ak, ck, hck, hCk⟩
      have HRowAt := Aside0.mk hrowAt
      clear hrowAt
      have hgo : ∀ (wx : World), KeepBut W0 wx bm none → ∀ (k n : Int) (st : List (Int × Int)), 0 ≤ k → k < nx.length → Mp.At wx bm eint (mpi st) → Calls Try.prog 35 #[.int .i64 k, .int .i64 n, .pointer (some ⟨w2.heap.size, 0, none⟩), .pointer (some ⟨Bs, 0, none⟩), .pointer (some ⟨w.heap.size, 0, none⟩)] wx fun e w' =>
          ∃ v : Value, e = .returned v ∧ Kd.R (Kd.int .i64) 3 w' wx.heap.size (fun _ => True) v (goesF home n st (rd_L1 b k)).2 ∧ Mp.At w' bm eint (mpi (goesF home n st (rd_L1 b k)).1) ∧ KeepBut wx w' bm none ∧ Below bm wx w' := by
        intro wx hk k n st h0 h1 hm
        obtain ⟨kn, rfl⟩ := Int.eq_ofNat_of_zero_le h0
        obtain ⟨Ak, ck, hck, hCk⟩ := HRowAt.out wx hk kn h0 h1
        exact goes_calls w2.heap.size Bs w.heap.size bm g nx.length cp kn n home st Ak ck _ wx (by omega) (keep_cell hk HAt0.out hbx0) (keep_cell hk HAt0.out hst0) (keep_cell hk HAt0.out hho0) hck hCk hm (by have := HBr.out kn; omega)
      have HGo := Aside0.mk hgo
      clear hgo
      have hgo1 := HGo.out W0 (KeepBut.refl _ _ _) home 1 [] hh0 hh1 HAt0.out
      have HG1 := Aside0.mk hgo1
      clear hgo1
      go_wp2_with (go_at_call 35; refine HG1.out.mono ?_; rintro e w3 ⟨v3, rfl, hr3, hm3, hk3, hb3⟩; have HR3 := Aside0.mk hr3; have HM3 := Aside0.mk hm3; have HK3 := Aside0.mk hk3; have HB3 := Aside0.mk hb3; clear hr3 hm3 hk3 hb3)
      have HBx0 := Aside0.mk hbx0
      have HSt := Aside0.mk hst0
      have HHo := Aside0.mk hho0
      clear hbx0 hho0 hst0
      have hgm0 := goes_mem home 1 (rd_L1 b home) []
      obtain ⟨todo0, htd0⟩ : ∃ td, td = (goesF home 1 [] (rd_L1 b home)).2 := ⟨_, rfl⟩
      have hml0 : ∀ k ∈ todo0, 0 ≤ k ∧ k < (nx.length : Int) := fun k hk => HBm.out home k (hgm0 k (by rw [← htd0]; exact hk))
      have hl0 : todo0.length ≤ 1000000 := by
        have h1 := goes1_len home 1 (rd_L1 b home) ([], [])
        have h2 := HBr.out home
        rw [htd0]
        unfold goesF
        simp only [List.length_nil] at h1
        omega
      rw [← htd0] at HR3 HFg
      clear hgm0 htd0
      go_loopg [12, 13] 1000 (fun q v12 v13 wr => ∃ (n : Int) (st : List (Int × Int)) (todo : List Int), v13 = .int .i64 n ∧ 0 ≤ n ∧ n + q ≤ 2000 ∧ todo.length ≤ 1000000 ∧ Aside0 (farGo b home q n st todo = some r) ∧ Aside0 (∀ k ∈ todo, 0 ≤ k ∧ k < (nx.length : Int)) ∧ Aside0 (Kd.R (Kd.int .i64) 3 wr W0.heap.size (fun _ => True) v12 todo) ∧ Aside0 (Mp.At wr bm eint (mpi st)) ∧ Aside0 (KeepBut W0 wr bm none) ∧ Aside0 (Below bm W0 wr))
      case atStart => exact ⟨2, _, todo0, rfl, by omega, by omega, hl0, HFg, ⟨hml0⟩, HR3, HM3, HK3, HB3⟩
      case round =>
        clear HR3 HFg HM3 HK3 HB3 hml0 hl0 HG1
        obtain ⟨wo, rfl⟩ : ∃ wo : World, wo = wr := ⟨_, rfl⟩
        obtain ⟨n, st, todo, rfl, hn0, hn1, htl, HF, HMem, HR, HM, HK, HBl⟩ := hrel
        obtain ⟨At, ct, rfl⟩ := Kd.R_slice HR.out
        have hst' := keep_cell HK.out HAt0.out HSt.out
        cases gk with
        | zero => exact absurd HF.out (by simp [farGo])
        | succ k1 =>
          have hF := HF.out
          unfold farGo at hF
          by_cases h0 : todo = []
          · rw [if_pos h0] at hF
            subst h0
            have hF' : st = r := Option.some.inj hF
            subst hF'
            have hlt2 : ¬ ((([] : List Int).length : Int) > 0) := by simp
            go_wp2
            go_ret
            exact ⟨bm, rfl, HM.out, hsz0, keep_below HBW0.out HBl.out hsz0⟩
          · rw [if_neg h0] at hF
            obtain ⟨p, hp⟩ : ∃ p, p = todo.foldl (expandF b home n) (st, []) := ⟨_, rfl⟩
            rw [← hp] at hF
            by_cases hpl : p.2.length ≤ 1000000
            · rw [if_pos hpl] at hF
              have hpos : 0 < todo.length := List.length_pos_iff.2 h0
              have hposI : ((todo.length : Int) > 0) := by omega
              have HF2 := Aside0.mk hF
              have HP := Aside0.mk hp
              clear hF HF hp hst'
              go_wp2
              go_loopw [14, 57] (fun v14 i wx => ∃ (m : Nat) (s : List (Int × Int)) (out : List Int), m ≤ todo.length ∧ i = .int .i64 m ∧ Aside0 ((todo.take m).foldl (expandF b home n) (st, []) = (s, out)) ∧ Aside0 (Kd.R (Kd.int .i64) 3 wx wo.heap.size (fun _ => True) v14 out) ∧ Aside0 (Mp.At wx bm eint (mpi s)) ∧ Aside0 (KeepBut wo wx bm none) ∧ Aside0 (Below bm wo wx)) (fun _ i _ => todo.length - (intOf i).toNat)
              case atStart => exact ⟨0, st, [], Nat.zero_le _, rfl, ⟨rfl⟩, ⟨Kd.R_nil _ _ _ _ _⟩, HM, ⟨KeepBut.refl _ _ _⟩, ⟨Below.refl _ _⟩⟩
              case round =>
                obtain ⟨wx, rfl⟩ : ∃ wx : World, wx = wr := ⟨_, rfl⟩
                obtain ⟨m, s, out, hm, rfl, HE, HO2, HMx, HKx, HBx⟩ := hrel
                have hKT := HK.out.trans HKx.out (.inl rfl)
                have hRt := Kd.R_keep (R_map HR.out HM.out) HKx.out (fun _ h => h.2)
                by_cases hlm : m < todo.length
                · obtain ⟨k, hk⟩ : ∃ k, k = rd todo m := ⟨_, rfl⟩
                  obtain ⟨ad2, e2, hy0⟩ := Kd.at_int (Kd.R_reads' hRt).2.2 m (by omega) (by omega)
                  cases e2
                  rw [← hk] at hy0
                  simp only [Int.toNat_natCast] at hy0
                  have hkm : k ∈ todo := by rw [hk]; unfold rd; rw [Int.toNat_natCast, List.getD_eq_getElem?_getD, List.getElem?_eq_getElem hlm]; exact List.getElem_mem hlm
                  obtain ⟨pk, qk⟩ := HMem.out k hkm
                  have hho' := keep_cell hKT HAt0.out HHo.out
                  have hE1 : (todo.take (m + 1)).foldl (expandF b home n) (st, []) = expandF b home n (s, out) k := by
                    rw [take_snoc todo m 0 hlm, List.foldl_append, HE.out, hk]
                    rfl
                  have hol : out.length ≤ 1000000 := by
                    have h1 := expand_len b home n (todo.drop m) (s, out)
                    rw [← HE.out, ← List.foldl_append, List.take_append_drop, ← HP.out] at h1
                    rw [HE.out] at h1
                    exact Nat.le_trans h1 hpl
                  have HOl := Aside0.mk hol
                  have HKT := Aside0.mk hKT
                  clear hk hkm hRt hol hKT
                  by_cases hkh : k = home
                  · subst hkh
                    have e3 : expandF b k n (s, out) k = (s, out) := by unfold expandF; rw [if_pos rfl]
                    rw [e3] at hE1
                    have HE1 := Aside0.mk hE1
                    clear hE1 e3
                    go_wp2
                    go_roundw
                    case rel => exact ⟨m + 1, s, out, hlm, by go_num, HE1, HO2, HMx, HKx, HBx⟩
                    case measure => simp [intOf]; omega
                  · have e3 : expandF b home n (s, out) k = ((goesF home n s (rd_L1 b k)).1, out ++ (goesF home n s (rd_L1 b k)).2) := by unfold expandF; rw [if_neg hkh]
                    rw [e3] at hE1
                    have HE1 := Aside0.mk hE1
                    have hgo2 := HGo.out wx HKT.out k n s pk qk HMx.out
                    have hgl2 : (goesF home n s (rd_L1 b k)).2.length ≤ 10000 := by
                      have h1 := goes1_len home n (rd_L1 b k) (s, [])
                      have h2 := HBr.out k
                      unfold goesF
                      simp only [List.length_nil] at h1
                      omega
                    generalize goesF home n s (rd_L1 b k) = q at hgo2 hgl2 HE1
                    have HG2 := Aside0.mk hgo2
                    have HGl := Aside0.mk hgl2
                    clear hE1 e3 hgo2 hgl2
                    obtain ⟨Ao, co, rfl⟩ := Kd.R_slice HO2.out
                    go_wp2_with (first
                      | (go_at_call 35; refine HG2.out.mono ?_; rintro e w4 ⟨v4, rfl, hr4, hm4, hk4, hb4⟩; obtain ⟨A4, c4, rfl⟩ := Kd.R_slice hr4; have HR4 := Aside0.mk hr4; have HM4 := Aside0.mk hm4; have HK4 := Aside0.mk (HKx.out.trans hk4 (.inl rfl)); have HB4 := Aside0.mk (HBx.out.trans hb4); have HO4 := Aside0.mk (Kd.R_mono (ok' := fun _ => True) (Kd.R_keep (R_map HO2.out HMx.out) hk4 (fun _ h => h.2)) (fun _ _ => trivial)); clear hr4 hm4 hk4 hb4)
                      | (at_builtin; refine Kd.R_append_rows (Kd.int .i64) (Rr := (Kd.int .i64).K w4) (w0 := w4) wo.heap.size rfl (.tmp 64) (.tmp 68) 34 3 (.int .i64 0) 8 rfl Try.underlying34 info3 rfl (by decide) (by omega) (.slice Ao out.length co) out q.2 A4 q.2.length c4 (fun _ => True) (fun _ => False) rfl rfl HO4.out (Kd.R_reads' HR4.out).2.2 (fun _ _ h => h) (fun _ h => h.elim) (fun _ _ => trivial) (Below.refl _ _) HK4.out.1 (by have := HOl.out; have := HGl.out; omega) ?_; intro v6 w6 ho6 hb6 hg6 hat6; obtain ⟨inner, hown⟩ := Kd.R_own HO4.out; have HK6 := Aside0.mk (keepBut_row HK4.out hg6 (own_base hown)); have HM6 := Aside0.mk (map_row HM4.out HO4.out hg6); have HB6 := Aside0.mk (HB4.out.grown hg6 (by have := HM4.out.lt; omega) (fun k e => by have := own_base hown k e; have := HM.out.lt; omega)); have HO6 := Aside0.mk ho6; clear ho6 hb6 hg6 hat6 hown))
                    go_roundw
                    case rel => exact ⟨m + 1, q.1, out ++ q.2, hlm, by go_num, HE1, HO6, HM6, HK6, HB6⟩
                    case measure => simp [intOf]; omega
                · have hmt : m = todo.length := by omega
                  subst hmt
                  rw [List.take_length] at HE
                  have e4 : p = (s, out) := by rw [HP.out]; exact HE.out
                  subst e4
                  have hm3 := HMem.out
                  have hmm2 : ∀ k ∈ out, 0 ≤ k ∧ k < (nx.length : Int) := by
                    have h1 := expand_mem (home := home) (n := n) HBm.out todo (st, []) (fun _ h => by cases h)
                    rw [HE.out] at h1
                    exact h1
                  have hn3 : n + 1 < 9223372036854775808 := by omega
                  have hn4 : -9223372036854775808 ≤ n + 1 := by omega
                  have HMem2 := Aside0.mk hmm2
                  clear hm3 hmm2 hRt
                  go_wp2
                  go_roundg k1
                  case rel => exact ⟨n + 1, s, out, by go_num, by omega, by omega, hpl, HF2, HMem2, ⟨Kd.R_lower HO2.out HK.out.1⟩, HMx, ⟨hKT⟩, ⟨HBl.out.trans HBx.out⟩⟩
                  case measure => omega
            · rw [if_neg hpl] at hF
              cases hF
end Go.Proofs.Ytccngacadolgfaa.P

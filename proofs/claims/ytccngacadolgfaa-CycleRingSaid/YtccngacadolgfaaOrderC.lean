/- cycle.Order: the order of items. Condition: next's; at most 1000000 items. -/
import Derived.Test.YtccngacadolgfaaRing2
set_option linter.unusedVariables false
set_option linter.unusedSimpArgs false
namespace Go.Proofs.Ytccngacadolgfaa.P
open Go.RowKit Go.Proofs.YtccngacadolgfaaW.PrintWords Go.Proofs.YtccngacadolgfaaW.PrintLast Go.Proofs.YtccngacadolgfaaW.PrintMore

def incF (b : List Int) (k : Int) : List Int := b.set k.toNat (wrap64 (rd b k + 1))
def decF (b : List Int) (k : Int) : List Int := b.set k.toNat (wrap64 (rd b k - 1))
def waitsTo (nx : List (List Int)) : Nat → List Int
  | 0 => List.replicate nx.length 0
  | j + 1 => (rd_L1 nx j).foldl incF (waitsTo nx j)
/-- Where the first 0 stands, or -1. -/
def idx0 (b : List Int) : Int := if (0 : Int) ∈ b then (b.idxOf (0 : Int) : Int) else -1
def ordGo (nx : List (List Int)) : Nat → List Int → List Int → List Int
  | 0, _, out => out
  | m + 1, b, out => if idx0 b < 0 then [] else ordGo nx m ((rd_L1 nx (idx0 b)).foldl decF (b.set (idx0 b).toNat (-1))) (out ++ [idx0 b])
def ordF (nx : List (List Int)) : List Int := ordGo nx nx.length (waitsTo nx nx.length) []
theorem inc_len (row b : List Int) : (row.foldl incF b).length = b.length := by
  induction row generalizing b with
  | nil => rfl
  | cons k row ih => rw [List.foldl_cons, ih]; simp [incF]
theorem dec_len (row b : List Int) : (row.foldl decF b).length = b.length := by
  induction row generalizing b with
  | nil => rfl
  | cons k row ih => rw [List.foldl_cons, ih]; simp [decF]
theorem waitsTo_len (nx : List (List Int)) (j : Nat) : (waitsTo nx j).length = nx.length := by
  induction j with
  | zero => simp [waitsTo]
  | succ j ih => rw [waitsTo, inc_len, ih]
theorem idx0_f (l : List Int) (hl : l.length ≤ 1000) : slices_Index_int_int.f 2000 l 0 = some (idx0 l) := by
  have h : ∀ (k j : Nat), j ≤ l.length → l.length - j < k → slices_Index_int_int.l0 k l 0 (l.length : Int) j = some (if (0 : Int) ∈ l.drop j then ((j + (l.drop j).idxOf (0 : Int) : Nat) : Int) else -1) := by
    intro k
    induction k with
    | zero => intro j _ h; omega
    | succ k ih =>
      intro j hj h
      unfold slices_Index_int_int.l0
      by_cases h1 : (j : Int) < l.length
      · have hj1 : j < l.length := by omega
        rw [if_pos h1, if_pos (by omega), if_pos h1]
        have e : rd l j = l[j] := by unfold rd; rw [Int.toNat_natCast, List.getD_eq_getElem?_getD, List.getElem?_eq_getElem hj1]; rfl
        rw [List.drop_eq_getElem_cons hj1, e]
        by_cases hx : 0 = l[j]
        · rw [if_pos hx, if_pos (by rw [← hx]; exact List.mem_cons_self), ← hx, List.idxOf_cons_self]
          rfl
        · rw [if_neg hx, show wrap64 ((j : Int) + 1) = ((j + 1 : Nat) : Int) by unfold wrap64; omega, ih (j + 1) hj1 (by omega)]
          have hx2 : l[j] ≠ 0 := fun h => hx h.symm
          by_cases hm : (0 : Int) ∈ l.drop (j + 1)
          · rw [if_pos hm, if_pos (List.mem_cons_of_mem _ hm), List.idxOf_cons, show (l[j] == (0 : Int)) = false from by simpa using hx2]
            simp only [cond_false]
            congr 2
            omega
          · rw [if_neg hm, if_neg (fun h => (List.mem_cons.1 h).elim (fun h => hx h) hm)]
      · rw [if_neg h1, show j = l.length by omega, List.drop_length]
        simp
  have := h 2000 0 (Nat.zero_le _) (by omega)
  unfold slices_Index_int_int.f idx0
  rw [show ((0 : Nat) : Int) = 0 from rfl] at this
  rw [this]
  simp
theorem idx0_lt {b : List Int} (h : 0 ≤ idx0 b) : idx0 b < b.length := by
  unfold idx0 at h ⊢
  split
  · rename_i hm
    have := List.idxOf_lt_length_of_mem hm
    omega
  · rename_i hm
    rw [if_neg hm] at h
    omega

set_option maxRecDepth 100000 in
set_option maxHeartbeats 1600000 in
theorem orderC_calls (gv : Array Value) (A4 : Option Addr) (c4 : Nat) (l4 : List (List Int)) (A5 : Option Addr) (c5 : Nat) (l5 : List (List Int)) (A : Option Addr) (c : Nat) (l : List S44) (w : World) (hgv : IsG gv A4 c4 l4 A5 c5 l5) (hg : GOk w A4 c4 l4 A5 c5 l5) (hr : Kd.C k44 w A l.length l) (hc : l.length ≤ c) (hlen : l.length ≤ 1000000) :
    Calls Try.prog 12 #[.agg gv, .slice A l.length c] w fun e w' => ∃ v : Value, e = .returned v ∧ Kd.R (Kd.int .i64) 3 w' w.heap.size (fun _ => True) v (ordF (nxF l4 l5 (l.take 64))) ∧ Below w.heap.size w w' := by
  obtain ⟨A0, n0, c0, A1, n1, c1, A2, n2, c2, A3, n3, c3, A6, n6, c6, A7, n7, c7, A8, n8, c8, A9, n9, c9, rfl⟩ := hgv
  have hu24 := Try.underlying24
  obtain ⟨w1, hw1⟩ : ∃ w1, w1 = w.alloc (.cells #[.slice A0 n0 c0, .slice A1 n1 c1, .slice A2 n2 c2, .slice A3 n3 c3, .slice A4 l4.length c4, .slice A5 l5.length c5, .slice A6 n6 c6, .slice A7 n7 c7, .slice A8 n8 c8, .slice A9 n9 c9] 24) := ⟨_, rfl⟩
  have hs : RS w A0 n0 c0 A1 n1 c1 A2 n2 c2 A3 n3 c3 A6 n6 c6 A7 n7 c7 A8 n8 c8 A9 n9 c9 A4 c4 l4 A5 c5 l5 A c l w.heap.size w1.drew := by
    have b0 : Below w.heap.size w w1 := by rw [hw1]; exact below_alloc (Below.refl _ _) _
    have q0 : w1.heap[w.heap.size]? = some (.cells #[.slice A0 n0 c0, .slice A1 n1 c1, .slice A2 n2 c2, .slice A3 n3 c3, .slice A4 l4.length c4, .slice A5 l5.length c5, .slice A6 n6 c6, .slice A7 n7 c7, .slice A8 n8 c8, .slice A9 n9 c9] 24 (0, 0)) := by rw [hw1]; exact blk_new _ _
    exact ⟨(blk_cell q0 0).trans rfl, (blk_cell q0 1).trans rfl, (blk_cell q0 2).trans rfl, (blk_cell q0 3).trans rfl, (blk_cell q0 4).trans rfl, (blk_cell q0 5).trans rfl, (blk_cell q0 6).trans rfl, (blk_cell q0 7).trans rfl, (blk_cell q0 8).trans rfl, (blk_cell q0 9).trans rfl, hg.below (below_drew b0), Kd.C_below hr (below_drew b0), below_drew b0⟩
  have HS := Aside0.mk hs
  have HW1 := Aside0.mk hw1
  have hml : (l.take 64).length ≤ 64 := by simp; omega
  have hmm : min l.length 64 = (l.take 64).length := by simp; omega
  have hmc : (l.take 64).length ≤ c := by simp; omega
  have hA := C_some z44 hr
  clear hw1 hs hg hr
  obtain ⟨nx, hnx⟩ : ∃ nx, nx = nxF l4 l5 (l.take 64) := ⟨_, rfl⟩
  rw [← hnx]
  have HNX := Aside0.mk hnx
  clear hnx
  go_enter Try.func12, Try.ntmps12
  go_upto_region 1 with (fail)
  rw [← HW1.out]
  have hs := HS.out
  refine start_ (n := 5) (S := fun w' => RS w A0 n0 c0 A1 n1 c1 A2 n2 c2 A3 n3 c3 A6 n6 c6 A7 n7 c7 A8 n8 c8 A9 n9 c9 A4 c4 l4 A5 c5 l5 A c l w.heap.size w') (ds := []) #[false, false, false, false, false] (by kernel_rfl) rfl rfl hs (fun hHeld => ?_)
  refine pure_ (i := 1) (N := (some 16)) (v := ?_) (a' := ?_) #[false, true, false, false, false] rfl rfl (by kernel_rfl) (fun _ _ _ h => h) (Or.inl ⟨by rfl, ?_⟩) ?_ ?_
  rotate_left
  · intro w'
    go_simp
    with_reducible rfl
  rotate_left
  · simp only [Act.put, List.setIfInBounds_toArray, List.set_cons_zero, List.set_cons_succ, i64_w, i32_w]
    rfl
  refine take_ (i := 0) (N := (some 15)) (v := ?_) (a' := ?_) #[true, true, false, false, false] rfl rfl (by kernel_rfl) (fun _ _ _ h => h) (Or.inl ⟨by rfl, ?_⟩) hHeld ?_ ?_
  rotate_left
  · rintro w' ⟨s0, s1, s2, s3, s4, s5, s6, s7, s8, s9, _, _, _⟩
    go_simp
    with_reducible rfl
  rotate_left
  · simp only [Act.put, List.setIfInBounds_toArray, List.set_cons_zero, List.set_cons_succ, i64_w, i32_w]
    rfl
  refine one_ (i := 2) (N := (some 17)) #[true, true, true, false, false] rfl rfl (by kernel_rfl) (by decide) (fun K hK => ?_)
  refine goes_ Try.func20 (by kernel_rfl) rfl #[.slice A l.length c] (by rfl) rfl rfl (by (try simp only [List.map_toArray, List.map_cons, List.map_nil]); first | done | rfl) ?_
  refine (few_calls A c l.length _ hc hA hlen).mono ?_
  rintro e w' ⟨rfl, rfl⟩
  rw [hmm]
  refine ⟨_, rfl, ?_⟩
  refine hK.out _ _ hHeld (fun hHeld => ?_)
  clear hK K
  try (refine norm_ (a' := ?_) ?_ ?_; rotate_left; (first | (show Act.put _ _ _ = _; simp only [Act.put, List.setIfInBounds_toArray, List.set_cons_zero, List.set_cons_succ, i64_w, i32_w]; rfl) | rfl))
  refine one_ (i := 3) (N := (some 18)) #[true, true, true, true, false] rfl rfl (by kernel_rfl) (by decide) (fun K hK => ?_)
  refine goes_ Try.func19 (by kernel_rfl) rfl #[.agg #[.slice A0 n0 c0, .slice A1 n1 c1, .slice A2 n2 c2, .slice A3 n3 c3, .slice A4 l4.length c4, .slice A5 l5.length c5, .slice A6 n6 c6, .slice A7 n7 c7, .slice A8 n8 c8, .slice A9 n9 c9], .slice A (l.take 64).length c] (by rfl) rfl rfl (by (try simp only [List.map_toArray, List.map_cons, List.map_nil]); first | done | rfl) ?_
  refine (next_calls _ A4 c4 l4 A5 c5 l5 A c (l.take 64) _ ⟨_, _, _, _, _, _, _, _, _, _, _, _, _, _, _, _, _, _, _, _, _, _, _, _, rfl⟩ hHeld.2.2.2.2.2.2.2.2.2.2.1 (C_take' hHeld.2.2.2.2.2.2.2.2.2.2.2.1 64) hmc (by omega)).mono ?_
  rintro e w3 ⟨v3, rfl, ho3, hb3⟩
  refine ⟨_, rfl, ?_⟩
  refine hK.out _ _ (hHeld.below hb3) (fun hHeld => ?_)
  clear hK K
  try (refine norm_ (a' := ?_) ?_ ?_; rotate_left; (first | (show Act.put _ _ _ = _; simp only [Act.put, List.setIfInBounds_toArray, List.set_cons_zero, List.set_cons_succ, i64_w, i32_w]; rfl) | rfl))
  refine pure_ (i := 4) (N := (some 5)) (v := ?_) (a' := ?_) #[true, true, true, true, true] rfl rfl (by kernel_rfl) (fun _ _ _ h => h) (Or.inl ⟨by rfl, ?_⟩) ?_ ?_
  rotate_left
  · intro w'
    go_simp
    with_reducible rfl
  rotate_left
  · simp only [Act.put, List.setIfInBounds_toArray, List.set_cons_zero, List.set_cons_succ, i64_w, i32_w]
    rfl
  refine done_ (by kernel_rfl) ?_
  have HO3 := Aside0.mk ho3
  have HB3 := Aside0.mk hHeld.2.2.2.2.2.2.2.2.2.2.2.2
  rw [nxF_eq, ← HNX.out] at HO3
  have hok : OkTo nx := by rw [HNX.out]; exact nxF_ok l4 l5 _ (by omega)
  have hnl64 : nx.length ≤ 64 := by rw [HNX.out, nxF_len]; omega
  have HOk := Aside0.mk hok
  clear hs hHeld ho3 hb3 hok HNX HS HW1 hmm hml hmc hA
  obtain ⟨A3', c3', rfl⟩ := Kd.S_slice HO3.out
  obtain ⟨_, hcc3, hC3⟩ := Kd.S_reads' HO3.out
  have HC3 := Aside0.mk hC3
  clear hC3
  go_wp2_with ((with_reducible refine gate_dst (N := 21) rfl ?_); refine Kd.R_make (Kd.int .i64) (w0 := w3) w3.heap.size 3 rfl (N := 21) rfl 34 _ _ rfl (nx.length : Int) rfl rfl Try.underlying34 (.int .i64 0) 8 info3 rfl (by decide) (by omega) 0 (ok := fun _ => True) (okp := fun _ => True) rfl (fun _ hk => hk) trivial (by omega) (by omega) (Below.refl _ _) (Nat.le_refl _) ?_; intro v5 w5 ho5 hb5 hg5 hn5; simp only [Int.toNat_natCast] at ho5; have HO5 := Aside0.mk ho5; have HB5 := Aside0.mk hb5; have HL5 := Aside0.mk (Kd.R_lt ho5); have HE5 := Aside0.mk (Kd.R_base ho5); have HB5z := Aside0.mk hb5.size; clear ho5 hb5 hg5 hn5)
  go_loopw [24] (fun i wr => ∃ j : Nat, j ≤ nx.length ∧ i = .int .i64 j ∧ Aside0 (Kd.R (Kd.int .i64) 3 wr w3.heap.size (fun _ => True) v5 (waitsTo nx j)) ∧ Aside0 (Below w3.heap.size w3 wr) ∧ Aside0 (w5.heap.size ≤ wr.heap.size)) (fun i _ => nx.length - (intOf i).toNat)
  case atStart => exact ⟨0, Nat.zero_le _, rfl, HO5, HB5, ⟨Nat.le_refl _⟩⟩
  case round =>
    clear HO5 HB5
    obtain ⟨wo, rfl⟩ : ∃ wo : World, wo = wr := ⟨_, rfl⟩
    obtain ⟨j, hj, rfl, HO, HB, HZ⟩ := hrel
    by_cases hlt : j < nx.length
    · obtain ⟨g, cp, rfl, _⟩ := Kd.R_form HO.out (by rw [waitsTo_len]; omega)
      rw [waitsTo_len] at HO ⊢
      have hgl : g < w5.heap.size := HL5.out g (by simp [Value.ownBlock])
      have hgb : w3.heap.size ≤ g := HE5.out g (by simp [Value.ownBlock])
      obtain ⟨row, hrow⟩ : ∃ row, row = rd_L1 nx j := ⟨_, rfl⟩
      obtain ⟨ad, Ar, cr, e1, hx0, hcr, hCr⟩ := at_L1 HC3.out j (by omega) (by omega)
      cases e1
      replace hx0 := (HB.out.cell (World.block_lt_of_cell? w3 _ hx0)).trans hx0
      have hrl := rdL_len HOk.out j
      have hrm := rdL_mem HOk.out j
      rw [← hrow] at hx0 hcr hCr hrl hrm
      simp only [Int.toNat_natCast] at hx0
      have HCr := Aside0.mk hCr
      have HRm := Aside0.mk hrm
      have HRow := Aside0.mk hrow
      clear hCr hrm hrow
      go_wp2
      clear hx0
      go_loopw [30] (fun i wr => ∃ m : Nat, m ≤ row.length ∧ i = .int .i64 m ∧ Aside0 (Kd.R (Kd.int .i64) 3 wr w3.heap.size (fun _ => True) (.slice (some ⟨g, 0, none⟩) nx.length cp) ((row.take m).foldl incF (waitsTo nx j))) ∧ Aside0 (Below w3.heap.size w3 wr) ∧ Aside0 (w5.heap.size ≤ wr.heap.size)) (fun i _ => row.length - (intOf i).toNat)
      case atStart => exact ⟨0, Nat.zero_le _, rfl, HO, HB, HZ⟩
      case round =>
        clear HO HB HZ
        obtain ⟨m, hm, rfl, HO, HB, HZ⟩ := hrel
        by_cases hlm : m < row.length
        · obtain ⟨x, hx⟩ : ∃ x, x = rd row m := ⟨_, rfl⟩
          obtain ⟨ad2, e2, hy0⟩ := Kd.at_int HCr.out m (by omega) (by omega)
          cases e2
          replace hy0 := (HB.out.cell (World.block_lt_of_cell? w3 _ hy0)).trans hy0
          rw [← hx] at hy0
          simp only [Int.toNat_natCast] at hy0
          have hxm : x ∈ row := by rw [hx]; unfold rd; rw [Int.toNat_natCast, List.getD_eq_getElem?_getD, List.getElem?_eq_getElem hlm]; exact List.getElem_mem hlm
          obtain ⟨px, qx⟩ := HRm.out x hxm
          obtain ⟨b, hb⟩ : ∃ b, b = (row.take m).foldl incF (waitsTo nx j) := ⟨_, rfl⟩
          have hbx : (row.take (m + 1)).foldl incF (waitsTo nx j) = b.set x.toNat (wrap64 (rd b x + 1)) := by
            rw [take_snoc row m 0 hlm, List.foldl_append, ← hb, hx]
            rfl
          have HBL := Aside0.mk (show b.length = nx.length by rw [hb, inc_len, waitsTo_len])
          rw [← hb] at HO
          have HBx := Aside0.mk hbx
          clear hx hxm hb hbx
          obtain ⟨ad3, e3, hc3⟩ := Kd.at_int (Kd.R_reads' HO.out).2.2 x px (by rw [HBL.out]; exact qx)
          cases e3
          obtain ⟨_, _, _, _, hfr⟩ := Kd.R_elem HO.out 0 x px qx
          have hf3 : wr.frozen? ⟨g, x.toNat, none⟩ = false := by have h_ := hfr 0; rwa [Nat.add_zero, show (Kd.int .i64).sz = 1 from rfl, Nat.mul_one] at h_
          replace hc3 : wr.cell? ⟨g, x.toNat, none⟩ = some (.int .i64 (rd b x)) := by rwa [add_plain] at hc3
          obtain ⟨y, hy⟩ : ∃ y, y = rd b x := ⟨_, rfl⟩
          rw [← hy] at hc3
          have HY := Aside0.mk hy
          have pxe := eq_true px
          have qxe := eq_true qx
          clear hfr hy
          go_wp2
          have HP := Kd.R_putg HO.out x (wrap64 (y + 1))
          go_roundw
          case rel => exact ⟨m + 1, hlm, by go_num, ⟨by rw [HBx.out, ← HY.out]; exact HP.1⟩, ⟨HB.out.setCell (p := ⟨g, x.toNat, none⟩) hgb _⟩, ⟨by simpa [World.setCell] using HZ.out⟩⟩
          case measure => simp [intOf]; omega
        · have hmr : m = row.length := by omega
          subst hmr
          rw [List.take_length] at HO
          go_wp2
          go_roundw
          case rel => exact ⟨j + 1, hlt, by go_num, ⟨by show Kd.R _ _ _ _ _ _ ((rd_L1 nx j).foldl incF (waitsTo nx j)); rw [← HRow.out]; exact HO.out⟩, HB, HZ⟩
          case measure => simp [intOf]; omega
    · have hjn : j = nx.length := by omega
      subst hjn
      obtain ⟨wB, rfl⟩ : ∃ wB : World, wB = wo := ⟨_, rfl⟩
      obtain ⟨r, hr⟩ : ∃ r, r = ordF nx := ⟨_, rfl⟩
      have HR := Aside0.mk hr
      have hZ := HZ.out
      have HW := Aside0.mk (waitsTo_len nx nx.length)
      clear hr
      go_wp2
      go_loopw [11, 44] (fun v11 i wr => ∃ (j : Nat) (b out : List Int), j ≤ nx.length ∧ i = .int .i64 j ∧ out.length ≤ j ∧ Aside0 (b.length = nx.length) ∧ Aside0 (ordGo nx (nx.length - j) b out = r) ∧ Aside0 (Kd.R (Kd.int .i64) 3 wr w3.heap.size (fun _ => True) v5 b) ∧ Aside0 (Kd.R (Kd.int .i64) 3 wr wB.heap.size (fun _ => True) v11 out) ∧ Aside0 (Below w3.heap.size w3 wr) ∧ Aside0 (wB.heap.size ≤ wr.heap.size)) (fun _ i _ => nx.length - (intOf i).toNat)
      case atStart => exact ⟨0, waitsTo nx nx.length, [], Nat.zero_le _, rfl, Nat.le_refl _, HW, ⟨by rw [HR.out]; rfl⟩, HO, ⟨Kd.R_nil _ _ _ _ _⟩, HB, ⟨Nat.le_refl _⟩⟩
      case round =>
        clear HO HB HZ
        obtain ⟨wo, rfl⟩ : ∃ wo : World, wo = wr := ⟨_, rfl⟩
        obtain ⟨j, b, out, hj, rfl, hol, HLb, HF, HO, HT, HB, HZ⟩ := hrel
        by_cases hlt : j < nx.length
        · obtain ⟨g, cp, rfl, _⟩ := Kd.R_form HO.out (by have := HLb.out; omega)
          have hgl : g < w5.heap.size := HL5.out g (by simp [Value.ownBlock])
          have hgb : w3.heap.size ≤ g := HE5.out g (by simp [Value.ownBlock])
          obtain ⟨_, hbc, hCb⟩ := Kd.R_reads' HO.out
          have hcall := slices_Index_int_int.calls 2000 (some ⟨g, 0, none⟩) cp b 0 (idx0 b) wo hCb (by have := HLb.out; omega) (idx0_f b (by have := HLb.out; omega))
          obtain ⟨at_, hat_⟩ : ∃ a, a = idx0 b := ⟨_, rfl⟩
          have hF := HF.out
          rw [show nx.length - j = (nx.length - (j + 1)) + 1 by omega] at hF
          unfold ordGo at hF
          have hal := @idx0_lt b
          rw [← hat_] at hcall hF hal
          have HCall := Aside0.mk hcall
          have HF1 := Aside0.mk hF
          clear hcall hF hat_ hbc hCb HF
          go_upto_region 16 with (go_at_call 24; refine HCall.out.mono ?_; rintro e w6 ⟨rfl, ⟨nd, rfl⟩⟩)
          obtain ⟨w6, hw6⟩ : ∃ w6, w6 = wo.drewN nd := ⟨_, rfl⟩
          rw [← hw6]
          have HO6 := Aside0.mk (show Kd.R (Kd.int .i64) 3 w6 w3.heap.size (fun _ => True) (.slice (some ⟨g, 0, none⟩) b.length cp) b by rw [hw6]; exact Kd.R_drewN HO.out nd)
          have HT6 := Aside0.mk (show Kd.R (Kd.int .i64) 3 w6 wB.heap.size (fun _ => True) _ out by rw [hw6]; exact Kd.R_drewN HT.out nd)
          have HB6 := Aside0.mk (show Below w3.heap.size w3 w6 by rw [hw6]; exact pw_below_drewN HB.out nd)
          have HZ6 := Aside0.mk (show wB.heap.size ≤ w6.heap.size by rw [hw6]; exact HZ.out)
          clear hw6 HO HT HB HZ HCall
          by_cases hneg : at_ < 0
          · have hF := HF1.out
            rw [if_pos hneg] at hF
            have HF2 := Aside0.mk hF
            clear hF hal
            go_wp2
            go_ret
            exact ⟨_, rfl, by rw [← HR.out, ← HF2.out]; exact Kd.R_nil _ _ _ _ _, below_then HB3.out HB3.out.size HB6.out⟩
          · have pa : 0 ≤ at_ := by omega
            have qa := hal pa
            have hF := HF1.out
            rw [if_neg hneg] at hF
            have HF2 := Aside0.mk hF
            clear hF HF1 hal
            obtain ⟨_, _, _, _, hfr⟩ := Kd.R_elem HO6.out 0 at_ pa qa
            have hf3 : w6.frozen? ⟨g, at_.toNat, none⟩ = false := by have h_ := hfr 0; rwa [Nat.add_zero, show (Kd.int .i64).sz = 1 from rfl, Nat.mul_one] at h_
            obtain ⟨ad3, e3, hc3⟩ := Kd.at_int (Kd.R_reads' HO6.out).2.2 at_ pa qa
            cases e3
            replace hc3 : w6.cell? ⟨g, at_.toNat, none⟩ = some (.int .i64 (rd b at_)) := by rwa [add_plain] at hc3
            have pae := eq_true pa
            have qae := eq_true qa
            clear hfr
            go_upto_region 19 with (fail)
            obtain ⟨w7, hw7⟩ : ∃ w7, w7 = w6.setCell ⟨g, at_.toNat, none⟩ (.int .i64 (-1)) := ⟨_, rfl⟩
            rw [← hw7]
            have hgT : ∀ k, some g = some k → some k ≠ Value.ownBlock _ := fun k e he => by
              cases e
              have h1 := Kd.R_base HT6.out g he.symm
              omega
            have HP := Kd.R_putg HO6.out at_ (-1)
            have HO7 := Aside0.mk (show Kd.R (Kd.int .i64) 3 w7 w3.heap.size (fun _ => True) (.slice (some ⟨g, 0, none⟩) b.length cp) (b.set at_.toNat (-1)) by rw [hw7]; exact HP.1)
            have HT7 := Aside0.mk (show Kd.R (Kd.int .i64) 3 w7 wB.heap.size (fun _ => True) _ out by rw [hw7]; exact Kd.R_grown2 HT6.out rfl HP.2 hgT)
            have HB7 := Aside0.mk (show Below w3.heap.size w3 w7 by rw [hw7]; exact HB6.out.setCell (p := ⟨g, at_.toNat, none⟩) hgb _)
            have HZ7 := Aside0.mk (show wB.heap.size ≤ w7.heap.size by rw [hw7]; simpa [World.setCell] using HZ6.out)
            clear hw7 HP HO6 HT6 HB6 HZ6 hgT hf3 hc3
            have qn : at_ < (nx.length : Int) := by rw [← HLb.out]; exact qa
            have qne := eq_true qn
            obtain ⟨row, hrow⟩ : ∃ row, row = rd_L1 nx at_ := ⟨_, rfl⟩
            obtain ⟨ad, Ar, cr, e1, hx0, hcr, hCr⟩ := at_L1 HC3.out at_ pa qn
            cases e1
            replace hx0 := (HB7.out.cell (World.block_lt_of_cell? w3 _ hx0)).trans hx0
            have hrm := rdL_mem HOk.out at_
            have hrl := rdL_len HOk.out at_
            have hF3 := HF2.out
            rw [← hrow] at hx0 hcr hCr hrm hrl hF3
            have HCr := Aside0.mk hCr
            have HRm := Aside0.mk hrm
            have HF3 := Aside0.mk hF3
            clear hCr hrm hrow hF3 HF2
            go_wp2
            clear hx0
            go_loopw [58] (fun i wr => ∃ (m : Nat) (b2 : List Int), m ≤ row.length ∧ i = .int .i64 m ∧ Aside0 (b2 = (row.take m).foldl decF (b.set at_.toNat (-1))) ∧ Aside0 (Kd.R (Kd.int .i64) 3 wr w3.heap.size (fun _ => True) (.slice (some ⟨g, 0, none⟩) b.length cp) b2) ∧ Aside0 (Kd.R (Kd.int .i64) 3 wr wB.heap.size (fun _ => True) u11 out) ∧ Aside0 (Below w3.heap.size w3 wr) ∧ Aside0 (wB.heap.size ≤ wr.heap.size)) (fun i _ => row.length - (intOf i).toNat)
            case atStart => exact ⟨0, _, Nat.zero_le _, rfl, ⟨rfl⟩, HO7, HT7, HB7, HZ7⟩
            case round =>
              clear HO7 HT7 HB7 HZ7
              obtain ⟨m, b2, hm, rfl, HE, HO, HT, HB, HZ⟩ := hrel
              by_cases hlm : m < row.length
              · obtain ⟨x, hx⟩ : ∃ x, x = rd row m := ⟨_, rfl⟩
                obtain ⟨ad2, e2, hy0⟩ := Kd.at_int HCr.out m (by omega) (by omega)
                cases e2
                replace hy0 := (HB.out.cell (World.block_lt_of_cell? w3 _ hy0)).trans hy0
                rw [← hx] at hy0
                simp only [Int.toNat_natCast] at hy0
                have hxm : x ∈ row := by rw [hx]; unfold rd; rw [Int.toNat_natCast, List.getD_eq_getElem?_getD, List.getElem?_eq_getElem hlm]; exact List.getElem_mem hlm
                obtain ⟨px, qx⟩ := HRm.out x hxm
                have HBL2 := Aside0.mk (show b2.length = b.length by rw [HE.out, dec_len]; simp)
                have hE2 : b2.set x.toNat (wrap64 (rd b2 x - 1)) = (row.take (m + 1)).foldl decF (b.set at_.toNat (-1)) := by
                  rw [take_snoc row m 0 hlm, List.foldl_append, ← HE.out, hx]
                  rfl
                have HE2 := Aside0.mk hE2
                clear hx hxm hE2
                obtain ⟨ad3, e3, hc3⟩ := Kd.at_int (Kd.R_reads' HO.out).2.2 x px (by rw [HBL2.out, HLb.out]; exact qx)
                cases e3
                obtain ⟨_, _, _, _, hfr⟩ := Kd.R_elem HO.out 0 x px (by rw [HLb.out]; exact qx)
                have hf3 : wr.frozen? ⟨g, x.toNat, none⟩ = false := by have h_ := hfr 0; rwa [Nat.add_zero, show (Kd.int .i64).sz = 1 from rfl, Nat.mul_one] at h_
                replace hc3 : wr.cell? ⟨g, x.toNat, none⟩ = some (.int .i64 (rd b2 x)) := by rwa [add_plain] at hc3
                obtain ⟨y, hy⟩ : ∃ y, y = rd b2 x := ⟨_, rfl⟩
                rw [← hy] at hc3
                have HY := Aside0.mk hy
                have pxe := eq_true px
                have qxe := eq_true (show x < (b.length : Int) by rw [HLb.out]; exact qx)
                clear hfr hy
                have hgT : ∀ k, some g = some k → some k ≠ Value.ownBlock u11 := fun k e he => by
                  cases e
                  have h1 := Kd.R_base HT.out g he.symm
                  omega
                have HGT := Aside0.mk hgT
                clear hgT
                go_wp2
                have HP := Kd.R_putg HO.out x (wrap64 (y - 1))
                go_roundw
                case rel => exact ⟨m + 1, _, hlm, by go_num, HE2, ⟨by rw [← HY.out]; exact HP.1⟩, ⟨Kd.R_grown2 HT.out rfl HP.2 HGT.out⟩, ⟨HB.out.setCell (p := ⟨g, x.toNat, none⟩) hgb _⟩, ⟨by simpa [World.setCell] using HZ.out⟩⟩
                case measure => simp [intOf]; omega
              · have hmr : m = row.length := by omega
                subst hmr
                rw [List.take_length] at HE
                have HL2 := Aside0.mk (show b2.length = nx.length by rw [HE.out, dec_len, List.length_set]; exact HLb.out)
                obtain ⟨Ao, co, rfl⟩ := Kd.R_slice HT.out
                have hgO : ∀ k, (Value.slice Ao out.length co).ownBlock = some k → some k ≠ (Value.slice (some ⟨g, 0, none⟩) b.length cp).ownBlock := fun k e he => by
                  have h1 := Kd.R_base HT.out k e
                  have h2 : k = g := by simpa [Value.ownBlock] using he
                  omega
                have HGO := Aside0.mk hgO
                have HTb := Aside0.mk (Kd.R_base HT.out)
                have hwB : w3.heap.size ≤ wB.heap.size := Nat.le_trans HB5z.out hZ
                clear hgO
                go_wp2_with (at_builtin; refine Kd.R_append (Kd.int .i64) (w0 := wr) wB.heap.size rfl (.tmp 69) (.tmp 71) 34 3 (.int .i64 0) 8 rfl Try.underlying34 info3 rfl (by decide) (by omega) (.slice Ao out.length co) out at_ [.int .i64 at_] (fun _ => True) (fun _ => False) rfl rfl rfl (fun _ hk => hk.elim) (fun _ _ => trivial) HT.out (Below.refl _ _) HZ.out (by omega) ?_; intro v8 w8 ho hb hg hat; have HO8 := Aside0.mk (Kd.R_grown2 HO.out rfl hg HGO.out); have HT8 := Aside0.mk ho; have HB8 := Aside0.mk (HB.out.grown hg HB.out.size (fun k e => Nat.le_trans hwB (HTb.out k e))); have HZ8 := Aside0.mk (Nat.le_trans HZ.out hg.size); clear ho hb hg hat)
                go_roundw
                case rel => exact ⟨j + 1, b2, out ++ [at_], hlt, by go_num, by rw [List.length_append, List.length_singleton]; omega, HL2, ⟨by rw [HE.out]; exact HF3.out⟩, HO8, HT8, HB8, HZ8⟩
                case measure => simp [intOf]; omega
        · have hjn : j = nx.length := by omega
          subst hjn
          have hF := HF.out
          rw [Nat.sub_self] at hF
          have hF2 : out = r := hF
          have HF2 := Aside0.mk hF2
          clear HF hF hF2
          go_wp2
          go_ret
          exact ⟨_, rfl, by rw [← HR.out, ← HF2.out]; exact Kd.R_lower HT.out (Nat.le_trans HB3.out.size (Nat.le_trans HB5z.out hZ)), below_then HB3.out HB3.out.size HB.out⟩
end Go.Proofs.Ytccngacadolgfaa.P

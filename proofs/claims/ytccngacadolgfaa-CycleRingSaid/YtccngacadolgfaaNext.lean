/- cycle.few, cycle.next: of each item, those that it comes ahead of. Condition: rows of at most 1000 places, at most 1000 items. -/
import Derived.Test.YtccngacadolgfaaAhead
import Derived.Test.YtccngacadolgfaaBack
set_option linter.unusedVariables false
set_option linter.unusedSimpArgs false
namespace Go.Proofs.Ytccngacadolgfaa.P
open Go.RowKit Go.Proofs.YtccngacadolgfaaW.PrintWords Go.Proofs.YtccngacadolgfaaW.PrintLast Go.Proofs.YtccngacadolgfaaW.PrintMore

def aheadI (l4 l5 : List (List Int)) (a b : S44) : Bool := aheadB l4 l5 a.f0.f0 a.f0.f1 b.f0.f0 b.f0.f1
def nxStep (l4 l5 : List (List Int)) (l : List S44) (i : Nat) (o : List (List Int)) (k : Nat) : List (List Int) := if aheadI l4 l5 (rd_T44 l i) (rd_T44 l k) = true then o.set i (rd_L1 o i ++ [(k : Int)]) else o
def nxRow (l4 l5 : List (List Int)) (l : List S44) (i m : Nat) (o : List (List Int)) : List (List Int) := (List.range m).foldl (nxStep l4 l5 l i) o
def nxTo (l4 l5 : List (List Int)) (l : List S44) : Nat → List (List Int)
  | 0 => List.replicate l.length []
  | j + 1 => nxRow l4 l5 l j l.length (nxTo l4 l5 l j)
theorem nxStep_len (l4 l5 : List (List Int)) (l : List S44) (i : Nat) (o : List (List Int)) (k : Nat) : (nxStep l4 l5 l i o k).length = o.length := by unfold nxStep; split <;> simp
theorem nxRow_succ (l4 l5 : List (List Int)) (l : List S44) (i m : Nat) (o : List (List Int)) : nxRow l4 l5 l i (m + 1) o = nxStep l4 l5 l i (nxRow l4 l5 l i m o) m := by simp [nxRow, List.range_succ]
theorem nxRow_len (l4 l5 : List (List Int)) (l : List S44) (i m : Nat) (o : List (List Int)) : (nxRow l4 l5 l i m o).length = o.length := by
  induction m with
  | zero => simp [nxRow]
  | succ m ih => rw [nxRow_succ, nxStep_len, ih]
theorem nxTo_len (l4 l5 : List (List Int)) (l : List S44) (j : Nat) : (nxTo l4 l5 l j).length = l.length := by
  induction j with
  | zero => simp [nxTo]
  | succ j ih => rw [nxTo, nxRow_len, ih]
theorem nxStep_row (l4 l5 : List (List Int)) (l : List S44) (i k n : Nat) (o : List (List Int)) (h : ∀ m, (rd_L1 o m).length ≤ n) : ∀ m, (rd_L1 (nxStep l4 l5 l i o k) m).length ≤ n + 1 := fun m => by
  unfold nxStep
  split
  · have h1 := rdL_set o i m (rd_L1 o i ++ [(k : Int)])
    have h2 := h m
    have h3 := h i
    simp only [List.length_append, List.length_singleton, Int.toNat_natCast] at h1
    omega
  · exact Nat.le_succ_of_le (h m)
theorem nxRow_row (l4 l5 : List (List Int)) (l : List S44) (i n : Nat) (o : List (List Int)) (h : ∀ m, (rd_L1 o m).length ≤ n) (m : Nat) : ∀ x, (rd_L1 (nxRow l4 l5 l i m o) x).length ≤ n + m := by
  induction m with
  | zero => simpa [nxRow] using h
  | succ m ih => rw [nxRow_succ]; exact nxStep_row l4 l5 l i m _ _ ih
theorem nxTo_row (l4 l5 : List (List Int)) (l : List S44) (j : Nat) : ∀ x, (rd_L1 (nxTo l4 l5 l j) x).length ≤ j * l.length := by
  induction j with
  | zero => intro m; unfold rd_L1 nxTo; rw [List.getD_eq_getElem?_getD, List.getElem?_replicate]; split <;> simp
  | succ j ih => intro x; have := nxRow_row l4 l5 l j _ _ ih l.length x; rw [nxTo, Nat.succ_mul]; exact this

set_option maxRecDepth 100000 in
set_option maxHeartbeats 8000000 in
theorem next_calls (gv : Array Value) (A4 : Option Addr) (c4 : Nat) (l4 : List (List Int)) (A5 : Option Addr) (c5 : Nat) (l5 : List (List Int)) (A : Option Addr) (c : Nat) (l : List S44) (w : World) (hgv : IsG gv A4 c4 l4 A5 c5 l5) (hg : GOk w A4 c4 l4 A5 c5 l5) (hr : Kd.C k44 w A l.length l) (hc : l.length ≤ c) (hlen : l.length ≤ 1000) :
    Calls Try.prog 19 #[.agg gv, .slice A l.length c] w fun e w' => ∃ v : Value, e = .returned v ∧ Kd.S kii 34 w' w.heap.size (fun _ => True) v (nxTo l4 l5 l l.length) ∧ Below w.heap.size w w' := by
  obtain ⟨A0, n0, c0, A1, n1, c1, A2, n2, c2, A3, n3, c3, A6, n6, c6, A7, n7, c7, A8, n8, c8, A9, n9, c9, rfl⟩ := hgv
  have HG := Aside0.mk hg
  have HC := Aside0.mk hr
  have hu24 := Try.underlying24
  have hu39 := Try.underlying39
  have hu44 := Try.underlying44
  clear hg hr
  obtain ⟨w1, hw1⟩ : ∃ w1, w1 = w.alloc (.cells #[.slice A0 n0 c0, .slice A1 n1 c1, .slice A2 n2 c2, .slice A3 n3 c3, .slice A4 l4.length c4, .slice A5 l5.length c5, .slice A6 n6 c6, .slice A7 n7 c7, .slice A8 n8 c8, .slice A9 n9 c9] 24) := ⟨_, rfl⟩
  have HB0 := Aside0.mk (show Below w.heap.size w w1 by rw [hw1]; exact below_alloc (Below.refl _ _) _)
  have HBk0 := Aside0.mk (show w1.heap[w.heap.size]? = some (.cells #[.slice A0 n0 c0, .slice A1 n1 c1, .slice A2 n2 c2, .slice A3 n3 c3, .slice A4 l4.length c4, .slice A5 l5.length c5, .slice A6 n6 c6, .slice A7 n7 c7, .slice A8 n8 c8, .slice A9 n9 c9] 24 (0, 0)) by rw [hw1]; exact blk_new _ _)
  have HW1 := Aside0.mk hw1
  clear hw1
  go_enter Try.func19, Try.ntmps19
  go_wp2_with ((with_reducible refine gate_dst (N := 12) rfl ?_); rw [← HW1.out]; refine Kd.S_make kii (w0 := w1) w1.heap.size 34 rfl (N := 12) rfl 22 _ _ rfl (l.length : Int) rfl rfl Try.underlying22 (.slice none 0 0) 24 info34 rfl (by decide) (by omega) [] (ok := fun _ => True) (okp := fun _ => True) ⟨_, rfl, Kd.R_nil _ _ _ _ _⟩ (fun _ hk => hk) trivial (by omega) (by omega) (Below.refl _ _) (Nat.le_refl _) ?_; intro v2 w2 ho2 hb2 hg2 hn2; simp only [Int.toNat_natCast] at ho2; have HO := Aside0.mk ho2; have HB := Aside0.mk hb2; clear ho2 hb2 hg2 hn2)
  go_loopw [15] (fun i wr => ∃ j : Nat, j ≤ l.length ∧ i = .int .i64 j ∧ Aside0 (Kd.S kii 34 wr w1.heap.size (fun _ => True) v2 (nxTo l4 l5 l j)) ∧ Aside0 (Below w1.heap.size w1 wr)) (fun i _ => l.length - (intOf i).toNat)
  case atStart => exact ⟨0, Nat.zero_le _, rfl, HO, HB⟩
  case round =>
    clear HO HB
    obtain ⟨wo, rfl⟩ : ∃ wo : World, wo = wr := ⟨_, rfl⟩
    obtain ⟨j, hj, rfl, HO, HB⟩ := hrel
    by_cases hlt : j < l.length
    · obtain ⟨g, cp, rfl, hgb, hgl, cells, hcl⟩ := Kd.S_form HO.out (by rw [nxTo_len]; omega)
      rw [nxTo_len] at HO ⊢
      obtain ⟨xa, hxa⟩ : ∃ xa, xa = rd_T44 l j := ⟨_, rfl⟩
      obtain ⟨ad, e1, hx0, hx1, hx2⟩ := at_T44 HC.out j (by omega) (by omega)
      cases e1
      have HBw := Aside0.mk (below_then HB0.out HB0.out.size HB.out)
      replace hx0 := (HBw.out.cell (World.block_lt_of_cell? w _ hx0)).trans hx0
      replace hx1 := (HBw.out.cell (World.block_lt_of_cell? w _ hx1)).trans hx1
      replace hx2 := (HBw.out.cell (World.block_lt_of_cell? w _ hx2)).trans hx2
      rw [← hxa] at hx0 hx1 hx2
      simp only [Int.toNat_natCast] at hx0 hx1 hx2
      have HXa := Aside0.mk hxa
      clear hxa hcl
      go_wp2
      have HOa := Aside0.mk (Kd.S_alloc HO.out (.cells #[.int .i64 xa.f0.f0, .int .u8 xa.f0.f1, .bool xa.f1] 44))
      have HBa := Aside0.mk (below_alloc HB.out (.cells #[.int .i64 xa.f0.f0, .int .u8 xa.f0.f1, .bool xa.f1] 44))
      have HKa := Aside0.mk (blk_new wo (.cells #[.int .i64 xa.f0.f0, .int .u8 xa.f0.f1, .bool xa.f1] 44))
      have hgo : g < wo.heap.size := hgl
      clear hx0 hx1 hx2
      go_loopw [22] (fun i wr => ∃ m : Nat, m ≤ l.length ∧ i = .int .i64 m ∧ Aside0 (Kd.S kii 34 wr w1.heap.size (fun _ => True) (.slice (some ⟨g, 0, none⟩) l.length cp) (nxRow l4 l5 l j m (nxTo l4 l5 l j))) ∧ Aside0 (wr.heap[wo.heap.size]? = some (.cells #[.int .i64 xa.f0.f0, .int .u8 xa.f0.f1, .bool xa.f1] 44 (0, 0))) ∧ Aside0 (Below w1.heap.size w1 wr)) (fun i _ => l.length - (intOf i).toNat)
      case atStart => exact ⟨0, Nat.zero_le _, rfl, HOa, HKa, HBa⟩
      case round =>
        clear HOa HBa HKa
        obtain ⟨wi, rfl⟩ : ∃ wi : World, wi = wr := ⟨_, rfl⟩
        obtain ⟨m, hm, rfl, HO, HKa, HBi⟩ := hrel
        by_cases hlm : m < l.length
        · obtain ⟨xb, hxb⟩ : ∃ xb, xb = rd_T44 l m := ⟨_, rfl⟩
          obtain ⟨ad2, e2, hy0, hy1, hy2⟩ := at_T44 HC.out m (by omega) (by omega)
          cases e2
          have HBw2 := Aside0.mk (below_then HB0.out HB0.out.size HBi.out)
          replace hy0 := (HBw2.out.cell (World.block_lt_of_cell? w _ hy0)).trans hy0
          replace hy1 := (HBw2.out.cell (World.block_lt_of_cell? w _ hy1)).trans hy1
          replace hy2 := (HBw2.out.cell (World.block_lt_of_cell? w _ hy2)).trans hy2
          rw [← hxb] at hy0 hy1 hy2
          simp only [Int.toNat_natCast] at hy0 hy1 hy2
          obtain ⟨b, hb⟩ : ∃ b, b = nxRow l4 l5 l j m (nxTo l4 l5 l j) := ⟨_, rfl⟩
          have hbl : b.length = l.length := by rw [hb, nxRow_len, nxTo_len]
          have hbr : (rd_L1 b j).length ≤ 10000000 := by
            rw [hb]
            have h1 := nxRow_row l4 l5 l j _ _ (nxTo_row l4 l5 l j) m j
            have h2 : j * l.length ≤ 1000 * 1000 := Nat.mul_le_mul (by omega) hlen
            omega
          have hbs : nxRow l4 l5 l j (m + 1) (nxTo l4 l5 l j) = if aheadI l4 l5 xa xb = true then b.set j (rd_L1 b j ++ [(m : Int)]) else b := by
            rw [nxRow_succ, ← hb]
            unfold nxStep
            rw [← HXa.out, ← hxb]
          rw [← hb] at HO
          obtain ⟨q, hq⟩ : ∃ q, q = aheadI l4 l5 xa xb := ⟨_, rfl⟩
          rw [← hq] at hbs
          have HBs := Aside0.mk hbs
          have HQ := Aside0.mk hq
          clear hb hbs hq hxb
          go_upto_region 8 with (fail)
          clear hy0 hy1 hy2
          obtain ⟨w3, hw3⟩ : ∃ w3, w3 = wi.alloc (.cells #[.int .i64 xb.f0.f0, .int .u8 xb.f0.f1, .bool xb.f1] 44) := ⟨_, rfl⟩
          rw [← hw3]
          have HO3 := Aside0.mk (show Kd.S kii 34 w3 w1.heap.size (fun _ => True) (.slice (some ⟨g, 0, none⟩) l.length cp) b by rw [hw3]; exact Kd.S_alloc HO.out _)
          have HB3 := Aside0.mk (show Below w1.heap.size w1 w3 by rw [hw3]; exact below_alloc HBi.out _)
          have HKa3 := Aside0.mk (show w3.heap[wo.heap.size]? = some (.cells #[.int .i64 xa.f0.f0, .int .u8 xa.f0.f1, .bool xa.f1] 44 (0, 0)) by rw [hw3]; exact blk_alloc HKa.out _)
          have HKb3 := Aside0.mk (show w3.heap[wi.heap.size]? = some (.cells #[.int .i64 xb.f0.f0, .int .u8 xb.f0.f1, .bool xb.f1] 44 (0, 0)) by rw [hw3]; exact blk_new _ _)
          have HKg3 := Aside0.mk (show w3.heap[w.heap.size]? = some (.cells #[.slice A0 n0 c0, .slice A1 n1 c1, .slice A2 n2 c2, .slice A3 n3 c3, .slice A4 l4.length c4, .slice A5 l5.length c5, .slice A6 n6 c6, .slice A7 n7 c7, .slice A8 n8 c8, .slice A9 n9 c9] 24 (0, 0)) from (HB3.out.block _ (blk_lt HBk0.out)).trans HBk0.out)
          have g0 := (blk_cell HKg3.out 0).trans rfl
          have g1 := (blk_cell HKg3.out 1).trans rfl
          have g2 := (blk_cell HKg3.out 2).trans rfl
          have g3 := (blk_cell HKg3.out 3).trans rfl
          have g4 := (blk_cell HKg3.out 4).trans rfl
          have g5 := (blk_cell HKg3.out 5).trans rfl
          have g6 := (blk_cell HKg3.out 6).trans rfl
          have g7 := (blk_cell HKg3.out 7).trans rfl
          have g8 := (blk_cell HKg3.out 8).trans rfl
          have g9 := (blk_cell HKg3.out 9).trans rfl
          have a0 := (blk_cell HKa3.out 0).trans rfl
          have a1 := (blk_cell HKa3.out 1).trans rfl
          have b0 := (blk_cell HKb3.out 0).trans rfl
          have b1 := (blk_cell HKb3.out 1).trans rfl
          have hcall := ahead_calls #[.slice A0 n0 c0, .slice A1 n1 c1, .slice A2 n2 c2, .slice A3 n3 c3, .slice A4 l4.length c4, .slice A5 l5.length c5, .slice A6 n6 c6, .slice A7 n7 c7, .slice A8 n8 c8, .slice A9 n9 c9] A4 c4 l4 A5 c5 l5 xa.f0.f0 xa.f0.f1 xb.f0.f0 xb.f0.f1 w3 ⟨_, _, _, _, _, _, _, _, _, _, _, _, _, _, _, _, _, _, _, _, _, _, _, _, rfl⟩ (HG.out.below (below_then HB0.out HB0.out.size HB3.out))
          rw [show aheadB l4 l5 xa.f0.f0 xa.f0.f1 xb.f0.f0 xb.f0.f1 = q from HQ.out.symm] at hcall
          have HCall := Aside0.mk hcall
          clear hcall hw3 HO HBi HKa
          cases q with
          | false =>
            go_wp2_with (go_at_call 27; refine HCall.out.mono ?_; rintro e w4 ⟨rfl, hb4⟩; have HB4 := Aside0.mk hb4; clear hb4)
            go_roundw
            case rel => exact ⟨m + 1, hlm, by go_num, ⟨by rw [HBs.out]; exact Kd.S_below HO3.out HB4.out⟩, ⟨blk_below HKa3.out HB4.out⟩, ⟨below_then HB3.out HB3.out.size HB4.out⟩⟩
            case measure => simp [intOf]; omega
          | true =>
            go_upto_region 9 with (go_at_call 27; refine HCall.out.mono ?_; rintro e w4 ⟨rfl, hb4⟩; have HB4 := Aside0.mk hb4; clear hb4)
            clear g0 g1 g2 g3 g4 g5 g6 g7 g8 g9 a0 a1 b0 b1 HCall HKg3 HKb3
            have hO4 := Kd.S_below HO3.out HB4.out
            obtain ⟨oki, ce, hcl, hM, hcc, hfr, hoki, hH⟩ := Kd.S_elem hO4 [] j (by omega) (by omega)
            obtain ⟨ve, rfl, ge⟩ := hM
            obtain ⟨Ax, cx, rfl⟩ := Kd.R_slice ge
            have hrx : w4.cell? ⟨g, j, none⟩ = some (.slice Ax (rd_L1 b j).length cx) := by
              have h_ := hcc 0 _ rfl
              rwa [Nat.add_zero, show (kii).sz = 1 from rfl, Nat.mul_one, Int.toNat_natCast] at h_
            have HRx := Aside0.mk (show Kd.R (Kd.int .i64) 3 w4 w1.heap.size oki (.slice Ax (rd_L1 b j).length cx) (rd_L1 b j) from ge)
            have HHx := Aside0.mk hH
            have HB5 := Aside0.mk (below_then HB3.out HB3.out.size HB4.out)
            have HKa4 := Aside0.mk (blk_below HKa3.out HB4.out)
            clear hcc hfr hH ge hcl hoki hO4 HO3 HKa3
            go_wp2_with (at_builtin; refine Kd.R_append (Kd.int .i64) (w0 := w1) w1.heap.size rfl (.tmp 38) (.tmp 40) 34 3 (.int .i64 0) 8 rfl Try.underlying34 info3 rfl (by decide) (by omega) (.slice Ax (rd_L1 b j).length cx) (rd_L1 b j) (m : Int) [.int .i64 (m : Int)] (fun k_ => oki k_ ∨ True ∧ w4.heap.size ≤ k_) (fun _ => False) rfl rfl rfl (fun _ hk => hk.elim) (fun k_ hk => .inr ⟨trivial, hk⟩) (Kd.R_mono HRx.out (fun _ hk => .inl hk)) HB5.out HB5.out.size (by omega) ?_; intro v5 w5 ho hb hg hat; obtain ⟨A6', c6', rfl⟩ := Kd.R_slice ho; have HO5 := Aside0.mk ho; have HB6 := Aside0.mk hb; have HKa5 := Aside0.mk (blk_grown HKa4.out hg (Kd.R_ne HRx.out HKa4.out (by decide))); have HH5 := Aside0.mk (Kd.H_grown (Kd.H_widen HHx.out) hg (fun k_ e_ => .inl (HRx.out.1 k_ e_))); have hat5 := Kd.H_at HH5.out (show (0 : Int) ≤ (j : Int) by omega) (show (j : Int) < _ by omega); have hc5 : w5.cell? ⟨g, j, none⟩ = some (.slice Ax (rd_L1 b j).length cx) := by { have h_ := hat5.1 0 _ rfl; rwa [Nat.add_zero, show (kii).sz = 1 from rfl, Nat.mul_one, Int.toNat_natCast] at h_ }; have hf5 : w5.frozen? ⟨g, j, none⟩ = false := by { have h_ := hat5.2 0; rwa [Nat.add_zero, show (kii).sz = 1 from rfl, Nat.mul_one, Int.toNat_natCast] at h_ }; clear ho hb hg hat hat5)
            have HP := Kd.S_seg0 HH5.out (show (0 : Int) ≤ (j : Int) by omega) (show (j : Int) < _ by omega) (seg := [.slice A6' (rd_L1 b j ++ [(m : Int)]).length c6']) (j := 0) (show 1 ≤ 1 by decide) (x' := rd_L1 b j ++ [(m : Int)]) (Kd.M_row HO5.out) (fun _ hk => hk)
            simp only [show (kii).sz = 1 from rfl, Nat.mul_one, Nat.add_zero, List.length_append, List.length_singleton, Int.toNat_natCast] at HP
            go_roundw
            case rel => exact ⟨m + 1, hlm, by go_num, ⟨by rw [HBs.out, if_pos trivial]; exact HP.1⟩, ⟨blk_far HKa5.out (by show wo.heap.size ≠ g; omega) _⟩, ⟨HB6.out.setCell (p := ⟨g, j, none⟩) hgb _⟩⟩
            case measure => simp [intOf]; omega
        · have hml : m = l.length := by omega
          subst hml
          go_wp2
          go_roundw
          case rel => exact ⟨j + 1, hlt, by go_num, HO, HBi⟩
          case measure => simp [intOf]; omega
    · have hjl : j = l.length := by omega
      subst hjl
      go_wp2
      go_ret
      exact ⟨_, rfl, Kd.S_lower HO.out HB0.out.size, below_then HB0.out HB0.out.size HB.out⟩
end Go.Proofs.Ytccngacadolgfaa.P

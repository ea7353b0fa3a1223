/- clepsydralaw23.CycleRing: the law's own walk: it answers true where the document's functions answer as CrGood says. Condition: CrGood, for few units that there are. -/
import Derived.Test.YtccngacadolgfaaPlainC
set_option linter.unusedVariables false
set_option linter.unusedSimpArgs false
namespace Go.Proofs.Ytccngacadolgfaa.P
open Go.RowKit Go.Proofs.YtccngacadolgfaaW.PrintWords Go.Proofs.YtccngacadolgfaaW.PrintLast Go.Proofs.YtccngacadolgfaaW.PrintMore
attribute [local go_sem] max2_int min2_int max_two min_two

theorem eqA39 (d : Nat) (w : World) (x0 y0 : Int) (x1 y1 : Int) :
    (Op.equalIn (d + 2) 39 (.agg #[.int .i64 x0, .int .u8 x1]) (.agg #[.int .i64 y0, .int .u8 y1])).run Try.prog w = .ok (x0 == y0 && (x1 == y1)) w := by
  refine eqA_of Try.underlying39 (by kernel_rfl) ?_
  refine eqf_cons (by rfl) (by go_simp; rfl) (by go_simp; rfl) (by go_simp) ?_
  exact eqf_last (by rfl) (by go_simp; rfl) (by go_simp; rfl) (by go_simp)
/-- The last place of a ring that need not be there. -/
def atTo (l : List S44) (r : List Int) (j : Nat) : Int := (r.take j).foldl (fun a i => if (rd_T44 l i).f1 = true then a else max a i) (-1)
theorem atTo_succ (l : List S44) (r : List Int) (j : Nat) (hj : j < r.length) : atTo l r (j + 1) = if (rd_T44 l (rd r j)).f1 = true then atTo l r j else max (atTo l r j) (rd r j) := by
  unfold atTo rd
  rw [Int.toNat_natCast, List.getD_eq_getElem?_getD, List.getElem?_eq_getElem hj, List.take_add_one, List.getElem?_eq_getElem hj]
  simp only [Option.toList_some, List.foldl_append, List.foldl_cons, List.foldl_nil, Option.getD_some]
structure CrGood (l4 l5 : List (List Int)) (l : List S44) (k : Nat) (s : List S49) (r o : List Int) : Prop where
  it : clepsydralaw23_items.f k l = some s
  rf : ringsF (nxF l4 l5 (l.take 64)) (l.take 64).length = some r
  rr : clepsydraref23_Ring.f k l4 l5 s = some r
  of : ordF (nxF l4 l5 (l.take 64)) = o
  ro : clepsydraref23_Order.f k l4 l5 s = some o
  sr : clepsydrakit_SameInts.f k r r = some true
  so : clepsydrakit_SameInts.f k o o = some true
  mem : ∀ i ∈ r, 0 ≤ i ∧ i < l.length
  rl : r.length ≤ 1000000
  iff : l ≠ [] → (r = [] ↔ o ≠ [])
  m4 : ∀ i, (rd_L1 l4 i).length ≤ 1000
  m5 : ∀ i, (rd_L1 l5 i).length ≤ 1000
  vic : vicF l (sortInts r) = if 0 ≤ atTo l r r.length then some (atTo l r r.length) else none
  big : ∀ j, j ≤ r.length → -1 ≤ atTo l r j ∧ (0 ≤ atTo l r j → atTo l r j < l.length)

set_option maxRecDepth 100000 in
set_option maxHeartbeats 4000000 in
theorem ringLaw_calls (A0 : Option Addr) (c0 : Nat) (l0 : List (List Int)) (A1 : Option Addr) (c1 : Nat) (l1 : List (List Int)) (A2 : Option Addr) (c2 : Nat) (l2 : List (List Int)) (A3 : Option Addr) (c3 : Nat) (l3 : List (List Int)) (A4 : Option Addr) (c4 : Nat) (l4 : List (List Int)) (A5 : Option Addr) (c5 : Nat) (l5 : List (List Int)) (A6 : Option Addr) (c6 : Nat) (l6 : List (List Int)) (A7 : Option Addr) (c7 : Nat) (l7 : List (List Int)) (A8 : Option Addr) (c8 : Nat) (l8 : List (List Int)) (A9 : Option Addr) (c9 : Nat) (l9 : List (List Int)) (A : Option Addr) (c : Nat) (l : List S44) (w : World) (hr0 : Kd.C (Kd.slice 3 (Kd.int .i64)) w A0 l0.length l0) (hc0 : l0.length ≤ c0) (hr1 : Kd.C (Kd.slice 3 (Kd.int .i64)) w A1 l1.length l1) (hc1 : l1.length ≤ c1) (hr2 : Kd.C (Kd.slice 3 (Kd.int .i64)) w A2 l2.length l2) (hc2 : l2.length ≤ c2) (hr3 : Kd.C (Kd.slice 3 (Kd.int .i64)) w A3 l3.length l3) (hc3 : l3.length ≤ c3) (hr4 : Kd.C (Kd.slice 3 (Kd.int .i64)) w A4 l4.length l4) (hc4 : l4.length ≤ c4) (hr5 : Kd.C (Kd.slice 3 (Kd.int .i64)) w A5 l5.length l5) (hc5 : l5.length ≤ c5) (hr6 : Kd.C (Kd.slice 3 (Kd.int .i64)) w A6 l6.length l6) (hc6 : l6.length ≤ c6) (hr7 : Kd.C (Kd.slice 3 (Kd.int .i64)) w A7 l7.length l7) (hc7 : l7.length ≤ c7) (hr8 : Kd.C (Kd.slice 3 (Kd.int .i64)) w A8 l8.length l8) (hc8 : l8.length ≤ c8) (hr9 : Kd.C (Kd.slice 3 (Kd.int .i64)) w A9 l9.length l9) (hc9 : l9.length ≤ c9) (hr : Kd.C k44 w A l.length l) (hc : l.length ≤ c)
    (kf : Nat) (fw : Bool) (hfw : clepsydralaw23_few.f kf l0 l1 l2 l3 l4 l5 l6 l7 l8 l9 = some fw) (hun : fw = true → l.length ≤ 8 → ∃ u, clepsydralaw23_units.f kf l0 l1 l2 l3 l4 l5 l6 l7 l8 l9 l = some u ∧ (u = true → ∃ k s r o, CrGood l4 l5 l k s r o)) :
    Calls Try.prog 3 #[.agg #[.slice A0 l0.length c0, .slice A1 l1.length c1, .slice A2 l2.length c2, .slice A3 l3.length c3, .slice A4 l4.length c4, .slice A5 l5.length c5, .slice A6 l6.length c6, .slice A7 l7.length c7, .slice A8 l8.length c8, .slice A9 l9.length c9], .slice A l.length c] w fun e w' => e = .returned (.bool true) ∧ Below w.heap.size w w' := by
  have hu24 := Try.underlying24
  have hu30 := Try.underlying30
  have b0 := below_alloc (Below.refl w.heap.size w) (.cells #[.slice A0 l0.length c0, .slice A1 l1.length c1, .slice A2 l2.length c2, .slice A3 l3.length c3, .slice A4 l4.length c4, .slice A5 l5.length c5, .slice A6 l6.length c6, .slice A7 l7.length c7, .slice A8 l8.length c8, .slice A9 l9.length c9] 24)
  have q0 := blk_new w (.cells #[.slice A0 l0.length c0, .slice A1 l1.length c1, .slice A2 l2.length c2, .slice A3 l3.length c3, .slice A4 l4.length c4, .slice A5 l5.length c5, .slice A6 l6.length c6, .slice A7 l7.length c7, .slice A8 l8.length c8, .slice A9 l9.length c9] 24)
  go_enter Try.func3, Try.ntmps3
  go_upto_region 1 with (fail)
  generalize (w.alloc (.cells #[.slice A0 l0.length c0, .slice A1 l1.length c1, .slice A2 l2.length c2, .slice A3 l3.length c3, .slice A4 l4.length c4, .slice A5 l5.length c5, .slice A6 l6.length c6, .slice A7 l7.length c7, .slice A8 l8.length c8, .slice A9 l9.length c9] 24)) = W0 at b0 q0 ⊢
  have HC0 := Aside0.mk (Kd.C_below hr0 b0)
  have HC1 := Aside0.mk (Kd.C_below hr1 b0)
  have HC2 := Aside0.mk (Kd.C_below hr2 b0)
  have HC3 := Aside0.mk (Kd.C_below hr3 b0)
  have HC4 := Aside0.mk (Kd.C_below hr4 b0)
  have HC5 := Aside0.mk (Kd.C_below hr5 b0)
  have HC6 := Aside0.mk (Kd.C_below hr6 b0)
  have HC7 := Aside0.mk (Kd.C_below hr7 b0)
  have HC8 := Aside0.mk (Kd.C_below hr8 b0)
  have HC9 := Aside0.mk (Kd.C_below hr9 b0)
  have HCl := Aside0.mk (Kd.C_below hr b0)
  have HCell : Aside0 (∀ w', Below W0.heap.size W0 w' → w'.cell? ⟨w.heap.size, 0, none⟩ = some (.slice A0 l0.length c0) ∧ w'.cell? ⟨w.heap.size, 1, none⟩ = some (.slice A1 l1.length c1) ∧ w'.cell? ⟨w.heap.size, 2, none⟩ = some (.slice A2 l2.length c2) ∧ w'.cell? ⟨w.heap.size, 3, none⟩ = some (.slice A3 l3.length c3) ∧ w'.cell? ⟨w.heap.size, 4, none⟩ = some (.slice A4 l4.length c4) ∧ w'.cell? ⟨w.heap.size, 5, none⟩ = some (.slice A5 l5.length c5) ∧ w'.cell? ⟨w.heap.size, 6, none⟩ = some (.slice A6 l6.length c6) ∧ w'.cell? ⟨w.heap.size, 7, none⟩ = some (.slice A7 l7.length c7) ∧ w'.cell? ⟨w.heap.size, 8, none⟩ = some (.slice A8 l8.length c8) ∧ w'.cell? ⟨w.heap.size, 9, none⟩ = some (.slice A9 l9.length c9)) := ⟨fun w' hb => ⟨pw_cell_below hb ((blk_cell q0 0).trans rfl), pw_cell_below hb ((blk_cell q0 1).trans rfl), pw_cell_below hb ((blk_cell q0 2).trans rfl), pw_cell_below hb ((blk_cell q0 3).trans rfl), pw_cell_below hb ((blk_cell q0 4).trans rfl), pw_cell_below hb ((blk_cell q0 5).trans rfl), pw_cell_below hb ((blk_cell q0 6).trans rfl), pw_cell_below hb ((blk_cell q0 7).trans rfl), pw_cell_below hb ((blk_cell q0 8).trans rfl), pw_cell_below hb ((blk_cell q0 9).trans rfl)⟩⟩
  have HB0 := Aside0.mk b0
  have HFW := Aside0.mk hfw
  have HUN := Aside0.mk hun
  obtain ⟨s0, s1, s2, s3, s4, s5, s6, s7, s8, s9⟩ := HCell.out W0 (Below.refl _ _)
  clear b0 q0 hr hfw hun hr0 hr1 hr2 hr3 hr4 hr5 hr6 hr7 hr8 hr9
  cases fw with
  | false =>
    clear HUN
    go_wp2_with (first | (go_at_call 5; refine (clepsydralaw23_few.calls kf A0 c0 l0 A1 c1 l1 A2 c2 l2 A3 c3 l3 A4 c4 l4 A5 c5 l5 A6 c6 l6 A7 c7 l7 A8 c8 l8 A9 c9 l9 false _ HC0.out hc0 HC1.out hc1 HC2.out hc2 HC3.out hc3 HC4.out hc4 HC5.out hc5 HC6.out hc6 HC7.out hc7 HC8.out hc8 HC9.out hc9 HFW.out).mono ?_; rintro e w1 ⟨rfl, hb⟩; have HB1 := Aside0.mk hb; clear s0 s1 s2 s3 s4 s5 s6 s7 s8 s9; obtain ⟨s0, s1, s2, s3, s4, s5, s6, s7, s8, s9⟩ := HCell.out w1 hb; clear hb) | (go_at_call 7; refine (works_calls _).mono ?_; rintro e w9 ⟨rfl, hb⟩; have HB9 := Aside0.mk (below_then HB1.out HB1.out.size hb); clear hb))
    go_ret
    exact ⟨rfl, below_then HB0.out HB0.out.size HB9.out⟩
  | true =>
    by_cases h8 : l.length ≤ 8
    · obtain ⟨u, hu, hgood⟩ := HUN.out rfl h8
      have HU := Aside0.mk hu
      have HGood := Aside0.mk hgood
      clear hu hgood HUN
      have h8i : ¬ ((l.length : Int) > 8) := by omega
      cases u with
      | false =>
        clear HGood
        go_wp2_with (first | (go_at_call 5; refine (clepsydralaw23_few.calls kf A0 c0 l0 A1 c1 l1 A2 c2 l2 A3 c3 l3 A4 c4 l4 A5 c5 l5 A6 c6 l6 A7 c7 l7 A8 c8 l8 A9 c9 l9 true _ HC0.out hc0 HC1.out hc1 HC2.out hc2 HC3.out hc3 HC4.out hc4 HC5.out hc5 HC6.out hc6 HC7.out hc7 HC8.out hc8 HC9.out hc9 HFW.out).mono ?_; rintro e w1 ⟨rfl, hb⟩; have HB1 := Aside0.mk hb; clear s0 s1 s2 s3 s4 s5 s6 s7 s8 s9; obtain ⟨s0, s1, s2, s3, s4, s5, s6, s7, s8, s9⟩ := HCell.out w1 hb; clear hb) | (go_at_call 6; refine (clepsydralaw23_units.calls kf A0 c0 l0 A1 c1 l1 A2 c2 l2 A3 c3 l3 A4 c4 l4 A5 c5 l5 A6 c6 l6 A7 c7 l7 A8 c8 l8 A9 c9 l9 A c l false _ (Kd.C_below HC0.out HB1.out) hc0 (Kd.C_below HC1.out HB1.out) hc1 (Kd.C_below HC2.out HB1.out) hc2 (Kd.C_below HC3.out HB1.out) hc3 (Kd.C_below HC4.out HB1.out) hc4 (Kd.C_below HC5.out HB1.out) hc5 (Kd.C_below HC6.out HB1.out) hc6 (Kd.C_below HC7.out HB1.out) hc7 (Kd.C_below HC8.out HB1.out) hc8 (Kd.C_below HC9.out HB1.out) hc9 (Kd.C_below HCl.out HB1.out) hc HU.out).mono ?_; rintro e w2 ⟨rfl, hb⟩; have HB2 := Aside0.mk (below_then HB1.out HB1.out.size hb); clear s0 s1 s2 s3 s4 s5 s6 s7 s8 s9; obtain ⟨s0, s1, s2, s3, s4, s5, s6, s7, s8, s9⟩ := HCell.out w2 HB2.out; clear hb) | (go_at_call 7; refine (works_calls _).mono ?_; rintro e w9 ⟨rfl, hb⟩; have HB9 := Aside0.mk (below_then HB2.out HB2.out.size hb); clear hb))
        go_ret
        exact ⟨rfl, below_then HB0.out HB0.out.size HB9.out⟩
      | true =>
        obtain ⟨k, s, r, o, hG⟩ := HGood.out rfl
        have HG := Aside0.mk hG
        clear hG HGood
        go_upto_region 3 with (first | (go_at_call 5; refine (clepsydralaw23_few.calls kf A0 c0 l0 A1 c1 l1 A2 c2 l2 A3 c3 l3 A4 c4 l4 A5 c5 l5 A6 c6 l6 A7 c7 l7 A8 c8 l8 A9 c9 l9 true _ HC0.out hc0 HC1.out hc1 HC2.out hc2 HC3.out hc3 HC4.out hc4 HC5.out hc5 HC6.out hc6 HC7.out hc7 HC8.out hc8 HC9.out hc9 HFW.out).mono ?_; rintro e w1 ⟨rfl, hb⟩; have HB1 := Aside0.mk hb; clear s0 s1 s2 s3 s4 s5 s6 s7 s8 s9; obtain ⟨s0, s1, s2, s3, s4, s5, s6, s7, s8, s9⟩ := HCell.out w1 hb; clear hb) | (go_at_call 6; refine (clepsydralaw23_units.calls kf A0 c0 l0 A1 c1 l1 A2 c2 l2 A3 c3 l3 A4 c4 l4 A5 c5 l5 A6 c6 l6 A7 c7 l7 A8 c8 l8 A9 c9 l9 A c l true _ (Kd.C_below HC0.out HB1.out) hc0 (Kd.C_below HC1.out HB1.out) hc1 (Kd.C_below HC2.out HB1.out) hc2 (Kd.C_below HC3.out HB1.out) hc3 (Kd.C_below HC4.out HB1.out) hc4 (Kd.C_below HC5.out HB1.out) hc5 (Kd.C_below HC6.out HB1.out) hc6 (Kd.C_below HC7.out HB1.out) hc7 (Kd.C_below HC8.out HB1.out) hc8 (Kd.C_below HC9.out HB1.out) hc9 (Kd.C_below HCl.out HB1.out) hc HU.out).mono ?_; rintro e w2 ⟨rfl, hb⟩; have HB2 := Aside0.mk (below_then HB1.out HB1.out.size hb); clear s0 s1 s2 s3 s4 s5 s6 s7 s8 s9; obtain ⟨s0, s1, s2, s3, s4, s5, s6, s7, s8, s9⟩ := HCell.out w2 HB2.out; clear hb))
        clear HC0 HC1 HC2 HC3 HC6 HC7 HC8 HC9 HFW HU
        go_upto_region 4 with (first
          | (go_at_call 8; refine (plain_calls _ A4 c4 l4 A5 c5 l5 _ ⟨_, _, _, _, _, _, _, _, _, _, _, _, _, _, _, _, _, _, _, _, _, _, _, _, rfl⟩).mono ?_; rintro e w3 ⟨rfl, hb⟩; have HB3 := Aside0.mk (below_then HB2.out HB2.out.size hb); clear hb)
          | (go_at_call 9; refine (clepsydralaw23_items.calls k A c l s _ (Kd.C_below HCl.out HB3.out) hc HG.out.it).mono ?_; rintro e w4 ⟨v4, rfl, ho, hb⟩; obtain ⟨As, cs, rfl⟩ := Kd.R_slice ho; have HCs := Aside0.mk (Kd.R_reads' ho).2; have HB4 := Aside0.mk (below_then HB3.out HB3.out.size hb); clear ho hb))
        have b5 := below_alloc HB4.out (.cells #[.slice A4 l4.length c4, .slice A5 l5.length c5] 30)
        have b45 := below_alloc (Below.refl w4.heap.size w4) (.cells #[.slice A4 l4.length c4, .slice A5 l5.length c5] 30)
        have q5 := blk_new w4 (.cells #[.slice A4 l4.length c4, .slice A5 l5.length c5] 30)
        generalize (w4.alloc (.cells #[.slice A4 l4.length c4, .slice A5 l5.length c5] 30)) = W5 at b5 b45 q5 ⊢
        have hcs5 := Kd.C_below HCs.out.2 b45
        clear b45
        generalize w4.heap.size = Bm at q5 ⊢
        clear s0 s1 s2 s3 s4 s5 s6 s7 s8 s9
        obtain ⟨s0, s1, s2, s3, s4, s5, s6, s7, s8, s9⟩ := HCell.out W5 b5
        have HS5 : Aside0 (RS w A0 l0.length c0 A1 l1.length c1 A2 l2.length c2 A3 l3.length c3 A6 l6.length c6 A7 l7.length c7 A8 l8.length c8 A9 l9.length c9 A4 c4 l4 A5 c5 l5 A c l w.heap.size W5) := ⟨s0, s1, s2, s3, s4, s5, s6, s7, s8, s9, ⟨Kd.C_below HC4.out b5, hc4, Kd.C_below HC5.out b5, hc5, HG.out.m4, HG.out.m5⟩, Kd.C_below HCl.out b5, below_then HB0.out HB0.out.size b5⟩
        have HMC : Aside0 (∀ w', Below W5.heap.size W5 w' → (w'.cell? ⟨w.heap.size, 0, none⟩ = some (.slice A0 l0.length c0) ∧ w'.cell? ⟨w.heap.size, 1, none⟩ = some (.slice A1 l1.length c1) ∧ w'.cell? ⟨w.heap.size, 2, none⟩ = some (.slice A2 l2.length c2) ∧ w'.cell? ⟨w.heap.size, 3, none⟩ = some (.slice A3 l3.length c3) ∧ w'.cell? ⟨w.heap.size, 4, none⟩ = some (.slice A4 l4.length c4) ∧ w'.cell? ⟨w.heap.size, 5, none⟩ = some (.slice A5 l5.length c5) ∧ w'.cell? ⟨w.heap.size, 6, none⟩ = some (.slice A6 l6.length c6) ∧ w'.cell? ⟨w.heap.size, 7, none⟩ = some (.slice A7 l7.length c7) ∧ w'.cell? ⟨w.heap.size, 8, none⟩ = some (.slice A8 l8.length c8) ∧ w'.cell? ⟨w.heap.size, 9, none⟩ = some (.slice A9 l9.length c9)) ∧ w'.cell? ⟨Bm, 0, none⟩ = some (.slice A4 l4.length c4) ∧ w'.cell? ⟨Bm, 1, none⟩ = some (.slice A5 l5.length c5) ∧ Kd.C k49 w' As s.length s) := ⟨fun w' hb => ⟨HCell.out w' (below_then b5 b5.size hb), pw_cell_below hb ((blk_cell q5 0).trans rfl), pw_cell_below hb ((blk_cell q5 1).trans rfl), Kd.C_below hcs5 hb⟩⟩
        have hcs1 := HCs.out.1
        clear b5 q5 hcs5 HB1 HB2 HB3 HB4 HCs HCell HC4 HC5 HCl
        go_upto_region 5 with (go_at_call 10; refine (ringC_calls _ A4 c4 l4 A5 c5 l5 A c l _ ⟨_, _, _, _, _, _, _, _, _, _, _, _, _, _, _, _, _, _, _, _, _, _, _, _, rfl⟩ HS5.out.2.2.2.2.2.2.2.2.2.2.1 HS5.out.2.2.2.2.2.2.2.2.2.2.2.1 hc (by omega) r HG.out.rf).mono ?_; rintro e w6 ⟨v6, rfl, ho, hb⟩; obtain ⟨Ar, cr, rfl⟩ := Kd.R_slice ho; have hr1 := (Kd.R_reads' ho).2.1; have HR6 := Aside0.mk (Kd.R_reads' ho).2.2; have HB6 := Aside0.mk hb; clear ho hb)
        clear s0 s1 s2 s3 s4 s5 s6 s7 s8 s9
        obtain ⟨⟨s0, s1, s2, s3, s4, s5, s6, s7, s8, s9⟩, m0, m1, hcs⟩ := HMC.out w6 HB6.out
        have HC6 := Aside0.mk hcs
        clear hcs
        go_upto_region 6 with (go_at_call 11; refine (clepsydraref23_Ring.calls k A4 c4 l4 A5 c5 l5 As cs s r _ (HS5.out.below HB6.out).2.2.2.2.2.2.2.2.2.2.1.r4 hc4 (HS5.out.below HB6.out).2.2.2.2.2.2.2.2.2.2.1.r5 hc5 HC6.out hcs1 HG.out.rr).mono ?_; rintro e w7 ⟨v7, rfl, ho, hb⟩; obtain ⟨Aw, cw, rfl⟩ := Kd.R_slice ho; have hw1 := (Kd.R_reads' ho).2.1; have HW7 := Aside0.mk (Kd.R_reads' ho).2.2; have HR7 := Aside0.mk (Kd.C_below HR6.out hb); have HB7 := Aside0.mk (below_then HB6.out HB6.out.size hb); clear ho hb)
        clear s0 s1 s2 s3 s4 s5 s6 s7 s8 s9 m0 m1 HC6 HR6 HB6
        obtain ⟨⟨s0, s1, s2, s3, s4, s5, s6, s7, s8, s9⟩, m0, m1, hcs⟩ := HMC.out w7 HB7.out
        clear hcs
        go_upto_region 7 with (go_at_call 12; refine (orderC_calls _ A4 c4 l4 A5 c5 l5 A c l _ ⟨_, _, _, _, _, _, _, _, _, _, _, _, _, _, _, _, _, _, _, _, _, _, _, _, rfl⟩ (HS5.out.below HB7.out).2.2.2.2.2.2.2.2.2.2.1 (HS5.out.below HB7.out).2.2.2.2.2.2.2.2.2.2.2.1 hc (by omega)).mono ?_; rintro e w8 ⟨v8, rfl, ho, hb⟩; rw [HG.out.of] at ho; obtain ⟨Ao, co, rfl⟩ := Kd.R_slice ho; have ho1 := (Kd.R_reads' ho).2.1; have HO8 := Aside0.mk (Kd.R_reads' ho).2.2; have HR8 := Aside0.mk (Kd.C_below HR7.out hb); have HW8 := Aside0.mk (Kd.C_below HW7.out hb); have HB8 := Aside0.mk (below_then HB7.out HB7.out.size hb); clear ho hb)
        clear s0 s1 s2 s3 s4 s5 s6 s7 s8 s9 m0 m1 HR7 HW7 HB7
        obtain ⟨⟨s0, s1, s2, s3, s4, s5, s6, s7, s8, s9⟩, m0, m1, hcs⟩ := HMC.out w8 HB8.out
        clear hcs s0 s1 s2 s3 s4 s5 s6 s7 s8 s9
        by_cases hl : l = []
        · have hr0 : r = [] := by have := HG.out.rf; rw [hl] at this; exact (Option.some.inj this).symm
          have ho0 : o = [] := by have := HG.out.of; rw [hl] at this; exact this.symm
          have hlz : ¬ ((l.length : Int) > 0) := by rw [hl]; simp
          subst hr0
          subst ho0
          clear hl
          go_upto_region 9 with (first
            | (go_at_call 13; have hq := HX10; clear hq; refine (clepsydrakit_SameInts.calls k Ao co [] Ax cx [] true _ HO10.out ho1 HX10.out hx1 HG.out.so).mono ?_; rintro e w11 ⟨rfl, hd⟩; have hb := drawn0_below hd; have HW11 := Aside0.mk (Kd.C_below HW10.out hb); have HB11 := Aside0.mk (below_then HB10.out HB10.out.size hb); clear hd hb)
            | (go_at_call 14; refine (clepsydraref23_Order.calls k A4 c4 l4 A5 c5 l5 As cs s [] _ (HS5.out.below HB9.out).2.2.2.2.2.2.2.2.2.2.1.r4 hc4 (HS5.out.below HB9.out).2.2.2.2.2.2.2.2.2.2.1.r5 hc5 HC9.out hcs1 HG.out.ro).mono ?_; rintro e w10 ⟨v10, rfl, ho, hb⟩; obtain ⟨Ax, cx, rfl⟩ := Kd.R_slice ho; have hx1 := (Kd.R_reads' ho).2.1; have HX10 := Aside0.mk (Kd.R_reads' ho).2.2; have HO10 := Aside0.mk (Kd.C_below HO9.out hb); have HW10 := Aside0.mk (Kd.C_below HW9.out hb); have HB10 := Aside0.mk (below_then HB9.out HB9.out.size hb); clear ho hb)
            | (go_at_call 13; refine (clepsydrakit_SameInts.calls k Ar cr [] Aw cw [] true _ HR8.out hr1 HW8.out hw1 HG.out.sr).mono ?_; rintro e w9 ⟨rfl, hd⟩; have hb := drawn0_below hd; have HO9 := Aside0.mk (Kd.C_below HO8.out hb); have HW9 := Aside0.mk (Kd.C_below HW8.out hb); have HB9 := Aside0.mk (below_then HB8.out HB8.out.size hb); clear m0 m1 hd hb; obtain ⟨_, m0, m1, hcs⟩ := HMC.out w9 HB9.out; have HC9 := Aside0.mk hcs; clear hcs))
          clear m0 m1 HO9 HO10 HX10 HW9 HW10 HB9 HB10 HR8 HW8 HO8 HB8 HC9
          obtain ⟨⟨s0, s1, s2, s3, s4, s5, s6, s7, s8, s9⟩, _, _, _⟩ := HMC.out w11 HB11.out
          have hv : vicV l (Go.Proofs.Ytccngacadolgfaa.P.sortInts []) = .tuple #[.agg #[.int .i64 0, .int .u8 0], .bool false, .int .i64 0] := by (have h := HG.out.vic; rw [if_neg (by simp [atTo])] at h; unfold vicV; rw [h]; simp [sortInts])
          have HV := Aside0.mk hv
          clear hv
          go_upto_region 10 with (go_at_call 15; refine (victim_calls _ A4 c4 l4 A5 c5 l5 A c l _ ⟨_, _, _, _, _, _, _, _, _, _, _, _, _, _, _, _, _, _, _, _, _, _, _, _, rfl⟩ (HS5.out.below HB11.out).2.2.2.2.2.2.2.2.2.2.1 (HS5.out.below HB11.out).2.2.2.2.2.2.2.2.2.2.2.1 hc (by omega) [] HG.out.rf HG.out.mem HG.out.rl).mono ?_; rintro e w12 ⟨he, hb⟩; rw [HV.out] at he; subst he; have HW12 := Aside0.mk (Kd.C_below HW11.out hb); have HB12 := Aside0.mk (below_then HB11.out HB11.out.size hb); clear hb)
          clear s0 s1 s2 s3 s4 s5 s6 s7 s8 s9 HW11 HB11
          have b13 := below_alloc (Below.refl w12.heap.size w12) (.cells #[.int .i64 0, .int .u8 0] 39)
          have q13 := blk_new w12 (.cells #[.int .i64 0, .int .u8 0] 39)
          generalize (w12.alloc (.cells #[.int .i64 0, .int .u8 0] 39)) = W13 at b13 q13 ⊢
          have HB13 := Aside0.mk (below_then HB12.out HB12.out.size b13)
          have HW13 := Aside0.mk (Kd.C_below HW12.out b13)
          generalize w12.heap.size = Bv at q13 ⊢
          have HV0 : Aside0 (W13.cell? ⟨Bv, 0, none⟩ = some (.int .i64 0)) := ⟨(blk_cell q13 0).trans rfl⟩
          have HV1 : Aside0 (W13.cell? ⟨Bv, 1, none⟩ = some (.int .u8 0)) := ⟨(blk_cell q13 1).trans rfl⟩
          clear b13 q13 HW12 HB12
          clear HV HG HMC
          go_wp2
          go_loopw [13, 14] (fun v i wr => v = .int .i64 (-1) ∧ i = .int .i64 0 ∧ Aside0 (Below W13.heap.size W13 wr)) (fun _ _ _ => 0)
          case atStart => exact ⟨rfl, rfl, ⟨Below.refl _ _⟩⟩
          case round =>
            obtain ⟨rfl, rfl, HBx⟩ := hrel
            have v0 := pw_cell_below HBx.out HV0.out
            have v1 := pw_cell_below HBx.out HV1.out
            have heq := eqA39
            go_wp2_with (go_at_call 7; refine (works_calls _).mono ?_; rintro e w14 ⟨rfl, hb⟩; have HB14 := Aside0.mk (below_then HBx.out HBx.out.size hb); clear hb)
            go_ret
            exact ⟨rfl, below_then HS5.out.2.2.2.2.2.2.2.2.2.2.2.2 HS5.out.2.2.2.2.2.2.2.2.2.2.2.2.size (below_then HB13.out HB13.out.size HB14.out)⟩
        · have hlz : ((l.length : Int) > 0) := by have := List.length_pos_iff.2 hl; omega
          have hif := HG.out.iff hl
          by_cases hr0 : r = []
          · have ho0 : o ≠ [] := hif.1 hr0
            have hoN : 0 < o.length := List.length_pos_iff.2 ho0
            have hoz : ((o.length : Int) > 0) := by omega
            subst hr0
            clear hl hif
            go_upto_region 9 with (first
              | (go_at_call 13; have hq := HX10; clear hq; refine (clepsydrakit_SameInts.calls k Ao co o Ax cx o true _ HO10.out ho1 HX10.out hx1 HG.out.so).mono ?_; rintro e w11 ⟨rfl, hd⟩; have hb := drawn0_below hd; have HW11 := Aside0.mk (Kd.C_below HW10.out hb); have HB11 := Aside0.mk (below_then HB10.out HB10.out.size hb); clear hd hb)
              | (go_at_call 14; refine (clepsydraref23_Order.calls k A4 c4 l4 A5 c5 l5 As cs s o _ (HS5.out.below HB9.out).2.2.2.2.2.2.2.2.2.2.1.r4 hc4 (HS5.out.below HB9.out).2.2.2.2.2.2.2.2.2.2.1.r5 hc5 HC9.out hcs1 HG.out.ro).mono ?_; rintro e w10 ⟨v10, rfl, ho, hb⟩; obtain ⟨Ax, cx, rfl⟩ := Kd.R_slice ho; have hx1 := (Kd.R_reads' ho).2.1; have HX10 := Aside0.mk (Kd.R_reads' ho).2.2; have HO10 := Aside0.mk (Kd.C_below HO9.out hb); have HW10 := Aside0.mk (Kd.C_below HW9.out hb); have HB10 := Aside0.mk (below_then HB9.out HB9.out.size hb); clear ho hb)
              | (go_at_call 13; refine (clepsydrakit_SameInts.calls k Ar cr [] Aw cw [] true _ HR8.out hr1 HW8.out hw1 HG.out.sr).mono ?_; rintro e w9 ⟨rfl, hd⟩; have hb := drawn0_below hd; have HO9 := Aside0.mk (Kd.C_below HO8.out hb); have HW9 := Aside0.mk (Kd.C_below HW8.out hb); have HB9 := Aside0.mk (below_then HB8.out HB8.out.size hb); clear m0 m1 hd hb; obtain ⟨_, m0, m1, hcs⟩ := HMC.out w9 HB9.out; have HC9 := Aside0.mk hcs; clear hcs))
            clear m0 m1 HO9 HO10 HX10 HW9 HW10 HB9 HB10 HR8 HW8 HO8 HB8 HC9
            obtain ⟨⟨s0, s1, s2, s3, s4, s5, s6, s7, s8, s9⟩, _, _, _⟩ := HMC.out w11 HB11.out
            have hv : vicV l (Go.Proofs.Ytccngacadolgfaa.P.sortInts []) = .tuple #[.agg #[.int .i64 0, .int .u8 0], .bool false, .int .i64 0] := by (have h := HG.out.vic; rw [if_neg (by simp [atTo])] at h; unfold vicV; rw [h]; simp [sortInts])
            have HV := Aside0.mk hv
            clear hv
            go_upto_region 10 with (go_at_call 15; refine (victim_calls _ A4 c4 l4 A5 c5 l5 A c l _ ⟨_, _, _, _, _, _, _, _, _, _, _, _, _, _, _, _, _, _, _, _, _, _, _, _, rfl⟩ (HS5.out.below HB11.out).2.2.2.2.2.2.2.2.2.2.1 (HS5.out.below HB11.out).2.2.2.2.2.2.2.2.2.2.2.1 hc (by omega) [] HG.out.rf HG.out.mem HG.out.rl).mono ?_; rintro e w12 ⟨he, hb⟩; rw [HV.out] at he; subst he; have HW12 := Aside0.mk (Kd.C_below HW11.out hb); have HB12 := Aside0.mk (below_then HB11.out HB11.out.size hb); clear hb)
            clear s0 s1 s2 s3 s4 s5 s6 s7 s8 s9 HW11 HB11
            have b13 := below_alloc (Below.refl w12.heap.size w12) (.cells #[.int .i64 0, .int .u8 0] 39)
            have q13 := blk_new w12 (.cells #[.int .i64 0, .int .u8 0] 39)
            generalize (w12.alloc (.cells #[.int .i64 0, .int .u8 0] 39)) = W13 at b13 q13 ⊢
            have HB13 := Aside0.mk (below_then HB12.out HB12.out.size b13)
            have HW13 := Aside0.mk (Kd.C_below HW12.out b13)
            generalize w12.heap.size = Bv at q13 ⊢
            have HV0 : Aside0 (W13.cell? ⟨Bv, 0, none⟩ = some (.int .i64 0)) := ⟨(blk_cell q13 0).trans rfl⟩
            have HV1 : Aside0 (W13.cell? ⟨Bv, 1, none⟩ = some (.int .u8 0)) := ⟨(blk_cell q13 1).trans rfl⟩
            clear b13 q13 HW12 HB12
            clear HV HG HMC
            go_wp2
            go_loopw [13, 14] (fun v i wr => v = .int .i64 (-1) ∧ i = .int .i64 0 ∧ Aside0 (Below W13.heap.size W13 wr)) (fun _ _ _ => 0)
            case atStart => exact ⟨rfl, rfl, ⟨Below.refl _ _⟩⟩
            case round =>
              obtain ⟨rfl, rfl, HBx⟩ := hrel
              have v0 := pw_cell_below HBx.out HV0.out
              have v1 := pw_cell_below HBx.out HV1.out
              have heq := eqA39
              go_wp2_with (go_at_call 7; refine (works_calls _).mono ?_; rintro e w14 ⟨rfl, hb⟩; have HB14 := Aside0.mk (below_then HBx.out HBx.out.size hb); clear hb)
              go_ret
              exact ⟨rfl, below_then HS5.out.2.2.2.2.2.2.2.2.2.2.2.2 HS5.out.2.2.2.2.2.2.2.2.2.2.2.2.size (below_then HB13.out HB13.out.size HB14.out)⟩
          · have ho0 : o = [] := Classical.byContradiction fun h => hr0 (hif.2 h)
            have hrz : ((r.length : Int) > 0) := by have := List.length_pos_iff.2 hr0; omega
            subst ho0
            clear hl hif
            have hrl := HG.out.rl
            by_cases hat : 0 ≤ atTo l r r.length
            · skip
              go_upto_region 9 with (first
                | (go_at_call 13; have hq := HX10; clear hq; refine (clepsydrakit_SameInts.calls k Ao co [] Ax cx [] true _ HO10.out ho1 HX10.out hx1 HG.out.so).mono ?_; rintro e w11 ⟨rfl, hd⟩; have hb := drawn0_below hd; have HW11 := Aside0.mk (Kd.C_below HW10.out hb); have HB11 := Aside0.mk (below_then HB10.out HB10.out.size hb); clear hd hb)
                | (go_at_call 14; refine (clepsydraref23_Order.calls k A4 c4 l4 A5 c5 l5 As cs s [] _ (HS5.out.below HB9.out).2.2.2.2.2.2.2.2.2.2.1.r4 hc4 (HS5.out.below HB9.out).2.2.2.2.2.2.2.2.2.2.1.r5 hc5 HC9.out hcs1 HG.out.ro).mono ?_; rintro e w10 ⟨v10, rfl, ho, hb⟩; obtain ⟨Ax, cx, rfl⟩ := Kd.R_slice ho; have hx1 := (Kd.R_reads' ho).2.1; have HX10 := Aside0.mk (Kd.R_reads' ho).2.2; have HO10 := Aside0.mk (Kd.C_below HO9.out hb); have HW10 := Aside0.mk (Kd.C_below HW9.out hb); have HB10 := Aside0.mk (below_then HB9.out HB9.out.size hb); clear ho hb)
                | (go_at_call 13; refine (clepsydrakit_SameInts.calls k Ar cr r Aw cw r true _ HR8.out hr1 HW8.out hw1 HG.out.sr).mono ?_; rintro e w9 ⟨rfl, hd⟩; have hb := drawn0_below hd; have HO9 := Aside0.mk (Kd.C_below HO8.out hb); have HW9 := Aside0.mk (Kd.C_below HW8.out hb); have HB9 := Aside0.mk (below_then HB8.out HB8.out.size hb); clear m0 m1 hd hb; obtain ⟨_, m0, m1, hcs⟩ := HMC.out w9 HB9.out; have HC9 := Aside0.mk hcs; clear hcs))
              clear m0 m1 HO9 HO10 HX10 HW9 HW10 HB9 HB10 HR8 HW8 HO8 HB8 HC9
              obtain ⟨⟨s0, s1, s2, s3, s4, s5, s6, s7, s8, s9⟩, _, _, _⟩ := HMC.out w11 HB11.out
              have hv : vicV l (Go.Proofs.Ytccngacadolgfaa.P.sortInts r) = .tuple #[.agg #[.int .i64 (rd_T44 l (atTo l r r.length)).f0.f0, .int .u8 (rd_T44 l (atTo l r r.length)).f0.f1], .bool true, .int .i64 0] := by (have h := HG.out.vic; rw [if_pos hat] at h; unfold vicV; rw [h])
              have HV := Aside0.mk hv
              clear hv
              go_upto_region 10 with (go_at_call 15; refine (victim_calls _ A4 c4 l4 A5 c5 l5 A c l _ ⟨_, _, _, _, _, _, _, _, _, _, _, _, _, _, _, _, _, _, _, _, _, _, _, _, rfl⟩ (HS5.out.below HB11.out).2.2.2.2.2.2.2.2.2.2.1 (HS5.out.below HB11.out).2.2.2.2.2.2.2.2.2.2.2.1 hc (by omega) r HG.out.rf HG.out.mem HG.out.rl).mono ?_; rintro e w12 ⟨he, hb⟩; rw [HV.out] at he; subst he; have HW12 := Aside0.mk (Kd.C_below HW11.out hb); have HB12 := Aside0.mk (below_then HB11.out HB11.out.size hb); clear hb)
              clear s0 s1 s2 s3 s4 s5 s6 s7 s8 s9 HW11 HB11
              have b13 := below_alloc (Below.refl w12.heap.size w12) (.cells #[.int .i64 (rd_T44 l (atTo l r r.length)).f0.f0, .int .u8 (rd_T44 l (atTo l r r.length)).f0.f1] 39)
              have q13 := blk_new w12 (.cells #[.int .i64 (rd_T44 l (atTo l r r.length)).f0.f0, .int .u8 (rd_T44 l (atTo l r r.length)).f0.f1] 39)
              generalize (w12.alloc (.cells #[.int .i64 (rd_T44 l (atTo l r r.length)).f0.f0, .int .u8 (rd_T44 l (atTo l r r.length)).f0.f1] 39)) = W13 at b13 q13 ⊢
              have HB13 := Aside0.mk (below_then HB12.out HB12.out.size b13)
              have HW13 := Aside0.mk (Kd.C_below HW12.out b13)
              generalize w12.heap.size = Bv at q13 ⊢
              have HV0 : Aside0 (W13.cell? ⟨Bv, 0, none⟩ = some (.int .i64 (rd_T44 l (atTo l r r.length)).f0.f0)) := ⟨(blk_cell q13 0).trans rfl⟩
              have HV1 : Aside0 (W13.cell? ⟨Bv, 1, none⟩ = some (.int .u8 (rd_T44 l (atTo l r r.length)).f0.f1)) := ⟨(blk_cell q13 1).trans rfl⟩
              clear b13 q13 HW12 HB12
              have HCl13 := Aside0.mk (HS5.out.below HB13.out).2.2.2.2.2.2.2.2.2.2.2.1
              clear HMC
              go_wp2
              go_loopw [13, 14] (fun v i wr => ∃ j : Nat, j ≤ r.length ∧ i = .int .i64 j ∧ v = .int .i64 (atTo l r j) ∧ Aside0 (Below W13.heap.size W13 wr)) (fun _ i _ => r.length - (intOf i).toNat)
              case atStart => exact ⟨0, Nat.zero_le _, rfl, rfl, ⟨Below.refl _ _⟩⟩
              case round =>
                obtain ⟨j, hj, rfl, rfl, HBx⟩ := hrel
                by_cases hlt : j < r.length
                · obtain ⟨ad, e1, hx⟩ := Kd.at_int HW13.out j (by omega) (by omega)
                  cases e1
                  replace hx := pw_cell_below HBx.out hx
                  simp only [Int.toNat_natCast] at hx
                  have hst := atTo_succ l r j hlt
                  obtain ⟨i, hi⟩ : ∃ i, i = rd r j := ⟨_, rfl⟩
                  have him : i ∈ r := by rw [hi]; unfold rd; rw [Int.toNat_natCast, List.getD_eq_getElem?_getD, List.getElem?_eq_getElem hlt]; exact List.getElem_mem hlt
                  obtain ⟨hi0, hi1⟩ := HG.out.mem i him
                  rw [← hi] at hx hst
                  obtain ⟨it, hit⟩ : ∃ it, it = rd_T44 l i := ⟨_, rfl⟩
                  obtain ⟨ad2, e2, hy0, hy1, hy2⟩ := at_T44 (Kd.C_below HCl13.out HBx.out) i hi0 hi1
                  cases e2
                  rw [← hit] at hy0 hy1 hy2 hst
                  obtain ⟨a, ha⟩ : ∃ a, a = atTo l r j := ⟨_, rfl⟩
                  rw [← ha]
                  rw [← ha] at hst
                  have HSt := Aside0.mk hst
                  clear hit hi him hst ha
                  obtain ⟨⟨u, t⟩, mu⟩ := it
                  cases mu with
                  | true =>
                    go_wp2
                    go_roundw
                    case rel => exact ⟨j + 1, by omega, by go_num, by rw [HSt.out]; rfl, HBx⟩
                    case measure => simp [intOf]; omega
                  | false =>
                    go_wp2
                    go_roundw
                    case rel => exact ⟨j + 1, by omega, by go_num, by rw [HSt.out]; show Value.int .i64 (if a < i then i else a) = Value.int .i64 (max a i); congr 1; by_cases h : a < i; (rw [if_pos h]; omega); (rw [if_neg h]; omega), HBx⟩
                    case measure => simp [intOf]; omega
                · have hkl : j = r.length := by omega
                  subst hkl
                  obtain ⟨a, ha⟩ : ∃ a, a = atTo l r r.length := ⟨_, rfl⟩
                  rw [← ha]
                  have v0 := pw_cell_below HBx.out HV0.out
                  have v1 := pw_cell_below HBx.out HV1.out
                  rw [← ha] at hat
                  have HA := Aside0.mk ha
                  clear ha hlt hj
                  obtain ⟨_, hlt1⟩ := HG.out.big r.length (Nat.le_refl _)
                  rw [← HA.out] at hlt1
                  have ha1 := hlt1 hat
                  obtain ⟨it, hit⟩ : ∃ it, it = rd_T44 l a := ⟨_, rfl⟩
                  obtain ⟨ad2, e2, hy0, hy1, hy2⟩ := at_T44 (Kd.C_below HCl13.out HBx.out) a hat ha1
                  cases e2
                  rw [← hit] at hy0 hy1 hy2
                  have hit' := hit.trans (congrArg (rd_T44 l) HA.out)
                  rw [← hit'] at v0 v1
                  clear hit hit' hlt1
                  obtain ⟨⟨u, t⟩, mu⟩ := it
                  have heq := eqA39
                  go_upto_region 17 with (fail)
                  refine start_ (n := 18) (S := fun w' => w'.cell? ⟨Bv, 0, none⟩ = some (.int .i64 u) ∧ w'.cell? ⟨Bv, 1, none⟩ = some (.int .u8 t) ∧ w'.cell? (ad2.add (a.toNat * 3)) = some (.int .i64 u) ∧ w'.cell? ⟨(ad2.add (a.toNat * 3)).block, (ad2.add (a.toNat * 3)).off + 1, none⟩ = some (.int .u8 t) ∧ Below W13.heap.size W13 w') (ds := []) #[false, false, false, false, false, false, false, false, false, false, false, false, false, false, false, false, false, false] (by kernel_rfl) rfl rfl ⟨v0, v1, hy0, hy1, below_drew HBx.out⟩ (fun hHeld => ?_)
                  refine pure_ (i := 0) (N := (some 99)) (v := ?_) (a' := ?_) #[true, false, false, false, false, false, false, false, false, false, false, false, false, false, false, false, false, false] rfl rfl (by kernel_rfl) (fun _ _ _ h => h) (Or.inl ⟨by rfl, ?_⟩) ?_ ?_
                  rotate_left
                  · intro w'
                    go_simp
                    with_reducible rfl
                  rotate_left
                  · simp only [Act.put, List.setIfInBounds_toArray, List.set_cons_zero, List.set_cons_succ, i64_w, i32_w]
                    rfl
                  refine pure_ (i := 1) (N := (some 100)) (v := ?_) (a' := ?_) #[true, true, false, false, false, false, false, false, false, false, false, false, false, false, false, false, false, false] rfl rfl (by kernel_rfl) (fun _ _ _ h => h) (Or.inl ⟨by rfl, ?_⟩) ?_ ?_
                  rotate_left
                  · intro w'
                    go_simp
                    with_reducible rfl
                  rotate_left
                  · simp only [Act.put, List.setIfInBounds_toArray, List.set_cons_zero, List.set_cons_succ, i64_w, i32_w]
                    rfl
                  refine pure_ (i := 2) (N := (some 101)) (v := ?_) (a' := ?_) #[true, true, true, false, false, false, false, false, false, false, false, false, false, false, false, false, false, false] rfl rfl (by kernel_rfl) (fun _ _ _ h => h) (Or.inl ⟨by rfl, ?_⟩) ?_ ?_
                  rotate_left
                  · intro w'
                    go_simp
                    with_reducible rfl
                  rotate_left
                  · simp only [Act.put, List.setIfInBounds_toArray, List.set_cons_zero, List.set_cons_succ, i64_w, i32_w]
                    rfl
                  refine pure_ (i := 3) (N := (some 102)) (v := ?_) (a' := ?_) #[true, true, true, true, false, false, false, false, false, false, false, false, false, false, false, false, false, false] rfl rfl (by kernel_rfl) (fun _ _ _ h => h) (Or.inl ⟨by rfl, ?_⟩) ?_ ?_
                  rotate_left
                  · intro w'
                    go_simp
                    with_reducible rfl
                  rotate_left
                  · simp only [Act.put, List.setIfInBounds_toArray, List.set_cons_zero, List.set_cons_succ, i64_w, i32_w]
                    rfl
                  refine pure_ (i := 4) (N := (some 103)) (v := ?_) (a' := ?_) #[true, true, true, true, true, false, false, false, false, false, false, false, false, false, false, false, false, false] rfl rfl (by kernel_rfl) (fun _ _ _ h => h) (Or.inl ⟨by rfl, ?_⟩) ?_ ?_
                  rotate_left
                  · intro w'
                    go_simp
                    with_reducible rfl
                  rotate_left
                  · simp only [Act.put, List.setIfInBounds_toArray, List.set_cons_zero, List.set_cons_succ, i64_w, i32_w]
                    rfl
                  refine pure_ (i := 5) (N := (some 104)) (v := ?_) (a' := ?_) #[true, true, true, true, true, true, false, false, false, false, false, false, false, false, false, false, false, false] rfl rfl (by kernel_rfl) (fun _ _ _ h => h) (Or.inl ⟨by rfl, ?_⟩) ?_ ?_
                  rotate_left
                  · intro w'
                    go_simp
                    with_reducible rfl
                  rotate_left
                  · simp only [Act.put, List.setIfInBounds_toArray, List.set_cons_zero, List.set_cons_succ, i64_w, i32_w]
                    rfl
                  refine pure_ (i := 7) (N := (some 106)) (v := ?_) (a' := ?_) #[true, true, true, true, true, true, false, true, false, false, false, false, false, false, false, false, false, false] rfl rfl (by kernel_rfl) (fun _ _ _ h => h) (Or.inl ⟨by rfl, ?_⟩) ?_ ?_
                  rotate_left
                  · intro w'
                    go_simp
                    with_reducible rfl
                  rotate_left
                  · simp only [Act.put, List.setIfInBounds_toArray, List.set_cons_zero, List.set_cons_succ, i64_w, i32_w]
                    rfl
                  refine pure_ (i := 8) (N := (some 107)) (v := ?_) (a' := ?_) #[true, true, true, true, true, true, false, true, true, false, false, false, false, false, false, false, false, false] rfl rfl (by kernel_rfl) (fun _ _ _ h => h) (Or.inl ⟨by rfl, ?_⟩) ?_ ?_
                  rotate_left
                  · intro w'
                    go_simp
                    with_reducible rfl
                  rotate_left
                  · simp only [Act.put, List.setIfInBounds_toArray, List.set_cons_zero, List.set_cons_succ, i64_w, i32_w]
                    rfl
                  refine pure_ (i := 9) (N := (some 108)) (v := ?_) (a' := ?_) #[true, true, true, true, true, true, false, true, true, true, false, false, false, false, false, false, false, false] rfl rfl (by kernel_rfl) (fun _ _ _ h => h) (Or.inl ⟨by rfl, ?_⟩) ?_ ?_
                  rotate_left
                  · intro w'
                    go_simp
                    with_reducible rfl
                  rotate_left
                  · simp only [Act.put, List.setIfInBounds_toArray, List.set_cons_zero, List.set_cons_succ, i64_w, i32_w]
                    rfl
                  refine pure_ (i := 10) (N := (some 109)) (v := ?_) (a' := ?_) #[true, true, true, true, true, true, false, true, true, true, true, false, false, false, false, false, false, false] rfl rfl (by kernel_rfl) (fun _ _ _ h => h) (Or.inl ⟨by rfl, ?_⟩) ?_ ?_
                  rotate_left
                  · intro w'
                    go_simp
                    with_reducible rfl
                  rotate_left
                  · simp only [Act.put, List.setIfInBounds_toArray, List.set_cons_zero, List.set_cons_succ, i64_w, i32_w]
                    rfl
                  refine take_ (i := 6) (N := (some 105)) (v := ?_) (a' := ?_) #[true, true, true, true, true, true, true, true, true, true, true, false, false, false, false, false, false, false] rfl rfl (by kernel_rfl) (fun _ _ _ h => h) (Or.inl ⟨by rfl, ?_⟩) hHeld ?_ ?_
                  rotate_left
                  · rintro w' ⟨v0, v1, y0, y1, _⟩
                    go_simp
                    with_reducible rfl
                  rotate_left
                  · simp only [Act.put, List.setIfInBounds_toArray, List.set_cons_zero, List.set_cons_succ, i64_w, i32_w]
                    rfl
                  refine take_ (i := 11) (N := (some 110)) (v := ?_) (a' := ?_) #[true, true, true, true, true, true, true, true, true, true, true, true, false, false, false, false, false, false] rfl rfl (by kernel_rfl) (fun _ _ _ h => h) (Or.inl ⟨by rfl, ?_⟩) hHeld ?_ ?_
                  rotate_left
                  · rintro w' ⟨v0, v1, y0, y1, _⟩
                    go_simp
                    with_reducible rfl
                  rotate_left
                  · simp only [Act.put, List.setIfInBounds_toArray, List.set_cons_zero, List.set_cons_succ, i64_w, i32_w]
                    rfl
                  refine pure_ (i := 12) (N := (some 111)) (v := ?_) (a' := ?_) #[true, true, true, true, true, true, true, true, true, true, true, true, true, false, false, false, false, false] rfl rfl (by kernel_rfl) (fun _ _ _ h => h) (Or.inl ⟨by rfl, ?_⟩) ?_ ?_
                  rotate_left
                  · intro w'
                    go_simp
                    with_reducible rfl
                  rotate_left
                  · simp only [Act.put, List.setIfInBounds_toArray, List.set_cons_zero, List.set_cons_succ, i64_w, i32_w]
                    rfl
                  refine pure_ (i := 13) (N := (some 112)) (v := ?_) (a' := ?_) #[true, true, true, true, true, true, true, true, true, true, true, true, true, true, false, false, false, false] rfl rfl (by kernel_rfl) (fun _ _ _ h => h) (Or.inl ⟨by rfl, ?_⟩) ?_ ?_
                  rotate_left
                  · intro w'
                    go_simp
                    with_reducible rfl
                  rotate_left
                  · simp only [Act.put, List.setIfInBounds_toArray, List.set_cons_zero, List.set_cons_succ, i64_w, i32_w]
                    rfl
                  refine pure_ (i := 14) (N := (some 113)) (v := ?_) (a' := ?_) #[true, true, true, true, true, true, true, true, true, true, true, true, true, true, true, false, false, false] rfl rfl (by kernel_rfl) (fun _ _ _ h => h) (Or.inl ⟨by rfl, ?_⟩) ?_ ?_
                  rotate_left
                  · intro w'
                    go_simp
                    with_reducible rfl
                  rotate_left
                  · simp only [Act.put, List.setIfInBounds_toArray, List.set_cons_zero, List.set_cons_succ, i64_w, i32_w]
                    rfl
                  refine one_ (i := 15) (N := (some 114)) #[true, true, true, true, true, true, true, true, true, true, true, true, true, true, true, true, false, false] rfl rfl (by kernel_rfl) (by decide) (fun K hK => ?_)
                  refine goes_ Try.func7 (by kernel_rfl) rfl #[] (by rfl) rfl rfl (by (try simp only [List.map_toArray, List.map_cons, List.map_nil]); first | done | rfl) ?_
                  refine (works_calls _).mono ?_
                  rintro e w14 ⟨rfl, hb14⟩
                  refine ⟨_, rfl, ?_⟩
                  refine hK.out _ _ ⟨pw_cell_below hb14 hHeld.1, pw_cell_below hb14 hHeld.2.1, pw_cell_below hb14 hHeld.2.2.1, pw_cell_below hb14 hHeld.2.2.2.1, below_then hHeld.2.2.2.2 hHeld.2.2.2.2.size hb14⟩ (fun hHeld => ?_)
                  clear hK K
                  try (refine norm_ (a' := ?_) ?_ ?_; rotate_left; (first | (show Act.put _ _ _ = _; simp only [Act.put, List.setIfInBounds_toArray, List.set_cons_zero, List.set_cons_succ, i64_w, i32_w]; rfl) | rfl))
                  refine pure_ (i := 16) (N := (some 115)) (v := ?_) (a' := ?_) #[true, true, true, true, true, true, true, true, true, true, true, true, true, true, true, true, true, false] rfl rfl (by kernel_rfl) (fun _ _ _ h => h) (Or.inl ⟨by rfl, ?_⟩) ?_ ?_
                  rotate_left
                  · intro w'
                    go_simp
                    with_reducible rfl
                  rotate_left
                  · simp only [Act.put, List.setIfInBounds_toArray, List.set_cons_zero, List.set_cons_succ, i64_w, i32_w]
                    rfl
                  refine pure_ (i := 17) (N := (some 4)) (v := ?_) (a' := ?_) #[true, true, true, true, true, true, true, true, true, true, true, true, true, true, true, true, true, true] rfl rfl (by kernel_rfl) (fun _ _ _ h => h) (Or.inl ⟨by rfl, ?_⟩) ?_ ?_
                  rotate_left
                  · intro w'
                    go_simp
                    with_reducible rfl
                  rotate_left
                  · simp only [Act.put, List.setIfInBounds_toArray, List.set_cons_zero, List.set_cons_succ, i64_w, i32_w]
                    rfl
                  refine done_ (by kernel_rfl) ?_
                  go_wp2
                  go_ret
                  exact ⟨rfl, below_then HS5.out.2.2.2.2.2.2.2.2.2.2.2.2 HS5.out.2.2.2.2.2.2.2.2.2.2.2.2.size (below_then HB13.out HB13.out.size hHeld.2.2.2.2)⟩
            · skip
              go_upto_region 9 with (first
                | (go_at_call 13; have hq := HX10; clear hq; refine (clepsydrakit_SameInts.calls k Ao co [] Ax cx [] true _ HO10.out ho1 HX10.out hx1 HG.out.so).mono ?_; rintro e w11 ⟨rfl, hd⟩; have hb := drawn0_below hd; have HW11 := Aside0.mk (Kd.C_below HW10.out hb); have HB11 := Aside0.mk (below_then HB10.out HB10.out.size hb); clear hd hb)
                | (go_at_call 14; refine (clepsydraref23_Order.calls k A4 c4 l4 A5 c5 l5 As cs s [] _ (HS5.out.below HB9.out).2.2.2.2.2.2.2.2.2.2.1.r4 hc4 (HS5.out.below HB9.out).2.2.2.2.2.2.2.2.2.2.1.r5 hc5 HC9.out hcs1 HG.out.ro).mono ?_; rintro e w10 ⟨v10, rfl, ho, hb⟩; obtain ⟨Ax, cx, rfl⟩ := Kd.R_slice ho; have hx1 := (Kd.R_reads' ho).2.1; have HX10 := Aside0.mk (Kd.R_reads' ho).2.2; have HO10 := Aside0.mk (Kd.C_below HO9.out hb); have HW10 := Aside0.mk (Kd.C_below HW9.out hb); have HB10 := Aside0.mk (below_then HB9.out HB9.out.size hb); clear ho hb)
                | (go_at_call 13; refine (clepsydrakit_SameInts.calls k Ar cr r Aw cw r true _ HR8.out hr1 HW8.out hw1 HG.out.sr).mono ?_; rintro e w9 ⟨rfl, hd⟩; have hb := drawn0_below hd; have HO9 := Aside0.mk (Kd.C_below HO8.out hb); have HW9 := Aside0.mk (Kd.C_below HW8.out hb); have HB9 := Aside0.mk (below_then HB8.out HB8.out.size hb); clear m0 m1 hd hb; obtain ⟨_, m0, m1, hcs⟩ := HMC.out w9 HB9.out; have HC9 := Aside0.mk hcs; clear hcs))
              clear m0 m1 HO9 HO10 HX10 HW9 HW10 HB9 HB10 HR8 HW8 HO8 HB8 HC9
              obtain ⟨⟨s0, s1, s2, s3, s4, s5, s6, s7, s8, s9⟩, _, _, _⟩ := HMC.out w11 HB11.out
              have hv : vicV l (Go.Proofs.Ytccngacadolgfaa.P.sortInts r) = .tuple #[.agg #[.int .i64 0, .int .u8 0], .bool false, .int .i64 230] := by (have h := HG.out.vic; rw [if_neg (by omega)] at h; unfold vicV; rw [h]; have hsn : Go.Proofs.Ytccngacadolgfaa.P.sortInts r ≠ [] := fun h => hr0 (List.eq_nil_of_length_eq_zero (by rw [← sortInts_len, h]; rfl)); simp [hsn])
              have HV := Aside0.mk hv
              clear hv
              go_upto_region 10 with (go_at_call 15; refine (victim_calls _ A4 c4 l4 A5 c5 l5 A c l _ ⟨_, _, _, _, _, _, _, _, _, _, _, _, _, _, _, _, _, _, _, _, _, _, _, _, rfl⟩ (HS5.out.below HB11.out).2.2.2.2.2.2.2.2.2.2.1 (HS5.out.below HB11.out).2.2.2.2.2.2.2.2.2.2.2.1 hc (by omega) r HG.out.rf HG.out.mem HG.out.rl).mono ?_; rintro e w12 ⟨he, hb⟩; rw [HV.out] at he; subst he; have HW12 := Aside0.mk (Kd.C_below HW11.out hb); have HB12 := Aside0.mk (below_then HB11.out HB11.out.size hb); clear hb)
              clear s0 s1 s2 s3 s4 s5 s6 s7 s8 s9 HW11 HB11
              have b13 := below_alloc (Below.refl w12.heap.size w12) (.cells #[.int .i64 0, .int .u8 0] 39)
              have q13 := blk_new w12 (.cells #[.int .i64 0, .int .u8 0] 39)
              generalize (w12.alloc (.cells #[.int .i64 0, .int .u8 0] 39)) = W13 at b13 q13 ⊢
              have HB13 := Aside0.mk (below_then HB12.out HB12.out.size b13)
              have HW13 := Aside0.mk (Kd.C_below HW12.out b13)
              generalize w12.heap.size = Bv at q13 ⊢
              have HV0 : Aside0 (W13.cell? ⟨Bv, 0, none⟩ = some (.int .i64 0)) := ⟨(blk_cell q13 0).trans rfl⟩
              have HV1 : Aside0 (W13.cell? ⟨Bv, 1, none⟩ = some (.int .u8 0)) := ⟨(blk_cell q13 1).trans rfl⟩
              clear b13 q13 HW12 HB12
              have HCl13 := Aside0.mk (HS5.out.below HB13.out).2.2.2.2.2.2.2.2.2.2.2.1
              clear HMC
              go_wp2
              go_loopw [13, 14] (fun v i wr => ∃ j : Nat, j ≤ r.length ∧ i = .int .i64 j ∧ v = .int .i64 (atTo l r j) ∧ Aside0 (Below W13.heap.size W13 wr)) (fun _ i _ => r.length - (intOf i).toNat)
              case atStart => exact ⟨0, Nat.zero_le _, rfl, rfl, ⟨Below.refl _ _⟩⟩
              case round =>
                obtain ⟨j, hj, rfl, rfl, HBx⟩ := hrel
                by_cases hlt : j < r.length
                · obtain ⟨ad, e1, hx⟩ := Kd.at_int HW13.out j (by omega) (by omega)
                  cases e1
                  replace hx := pw_cell_below HBx.out hx
                  simp only [Int.toNat_natCast] at hx
                  have hst := atTo_succ l r j hlt
                  obtain ⟨i, hi⟩ : ∃ i, i = rd r j := ⟨_, rfl⟩
                  have him : i ∈ r := by rw [hi]; unfold rd; rw [Int.toNat_natCast, List.getD_eq_getElem?_getD, List.getElem?_eq_getElem hlt]; exact List.getElem_mem hlt
                  obtain ⟨hi0, hi1⟩ := HG.out.mem i him
                  rw [← hi] at hx hst
                  obtain ⟨it, hit⟩ : ∃ it, it = rd_T44 l i := ⟨_, rfl⟩
                  obtain ⟨ad2, e2, hy0, hy1, hy2⟩ := at_T44 (Kd.C_below HCl13.out HBx.out) i hi0 hi1
                  cases e2
                  rw [← hit] at hy0 hy1 hy2 hst
                  obtain ⟨a, ha⟩ : ∃ a, a = atTo l r j := ⟨_, rfl⟩
                  rw [← ha]
                  rw [← ha] at hst
                  have HSt := Aside0.mk hst
                  clear hit hi him hst ha
                  obtain ⟨⟨u, t⟩, mu⟩ := it
                  cases mu with
                  | true =>
                    go_wp2
                    go_roundw
                    case rel => exact ⟨j + 1, by omega, by go_num, by rw [HSt.out]; rfl, HBx⟩
                    case measure => simp [intOf]; omega
                  | false =>
                    go_wp2
                    go_roundw
                    case rel => exact ⟨j + 1, by omega, by go_num, by rw [HSt.out]; show Value.int .i64 (if a < i then i else a) = Value.int .i64 (max a i); congr 1; by_cases h : a < i; (rw [if_pos h]; omega); (rw [if_neg h]; omega), HBx⟩
                    case measure => simp [intOf]; omega
                · have hkl : j = r.length := by omega
                  subst hkl
                  obtain ⟨a, ha⟩ : ∃ a, a = atTo l r r.length := ⟨_, rfl⟩
                  rw [← ha]
                  have v0 := pw_cell_below HBx.out HV0.out
                  have v1 := pw_cell_below HBx.out HV1.out
                  rw [← ha] at hat
                  have HA := Aside0.mk ha
                  clear ha hlt hj
                  have heq := eqA39
                  go_wp2_with (go_at_call 7; refine (works_calls _).mono ?_; rintro e w14 ⟨rfl, hb⟩; have HB14 := Aside0.mk (below_then HBx.out HBx.out.size hb); clear hb)
                  go_ret
                  exact ⟨rfl, below_then HS5.out.2.2.2.2.2.2.2.2.2.2.2.2 HS5.out.2.2.2.2.2.2.2.2.2.2.2.2.size (below_then HB13.out HB13.out.size HB14.out)⟩
    · have h8i : ((l.length : Int) > 8) := by omega
      clear HUN
      go_wp2_with (first | (go_at_call 5; refine (clepsydralaw23_few.calls kf A0 c0 l0 A1 c1 l1 A2 c2 l2 A3 c3 l3 A4 c4 l4 A5 c5 l5 A6 c6 l6 A7 c7 l7 A8 c8 l8 A9 c9 l9 true _ HC0.out hc0 HC1.out hc1 HC2.out hc2 HC3.out hc3 HC4.out hc4 HC5.out hc5 HC6.out hc6 HC7.out hc7 HC8.out hc8 HC9.out hc9 HFW.out).mono ?_; rintro e w1 ⟨rfl, hb⟩; have HB1 := Aside0.mk hb; clear s0 s1 s2 s3 s4 s5 s6 s7 s8 s9; obtain ⟨s0, s1, s2, s3, s4, s5, s6, s7, s8, s9⟩ := HCell.out w1 hb; clear hb) | (go_at_call 7; refine (works_calls _).mono ?_; rintro e w9 ⟨rfl, hb⟩; have HB9 := Aside0.mk (below_then HB1.out HB1.out.size hb); clear hb))
      go_ret
      exact ⟨rfl, below_then HB0.out HB0.out.size HB9.out⟩
/-- What the law's own walk asks of the document's functions, at fuel k. -/
def CrCond (k : Nat) (l0 l1 l2 l3 l4 l5 l6 l7 l8 l9 : List (List Int)) (l : List S44) : Prop := ∃ fw, clepsydralaw23_few.f k l0 l1 l2 l3 l4 l5 l6 l7 l8 l9 = some fw ∧ (fw = true → l.length ≤ 8 → ∃ u, clepsydralaw23_units.f k l0 l1 l2 l3 l4 l5 l6 l7 l8 l9 l = some u ∧ (u = true → ∃ k s r o, CrGood l4 l5 l k s r o))
theorem clepsydralaw23_CycleRing.calls (k : Nat) (A0 : Option Addr) (c0 : Nat) (l0 : List (List Int)) (A1 : Option Addr) (c1 : Nat) (l1 : List (List Int)) (A2 : Option Addr) (c2 : Nat) (l2 : List (List Int)) (A3 : Option Addr) (c3 : Nat) (l3 : List (List Int)) (A4 : Option Addr) (c4 : Nat) (l4 : List (List Int)) (A5 : Option Addr) (c5 : Nat) (l5 : List (List Int)) (A6 : Option Addr) (c6 : Nat) (l6 : List (List Int)) (A7 : Option Addr) (c7 : Nat) (l7 : List (List Int)) (A8 : Option Addr) (c8 : Nat) (l8 : List (List Int)) (A9 : Option Addr) (c9 : Nat) (l9 : List (List Int)) (A : Option Addr) (c : Nat) (l : List S44) (b : Bool) (w : World) (hr0 : Kd.C (Kd.slice 3 (Kd.int .i64)) w A0 l0.length l0) (hc0 : l0.length ≤ c0) (hr1 : Kd.C (Kd.slice 3 (Kd.int .i64)) w A1 l1.length l1) (hc1 : l1.length ≤ c1) (hr2 : Kd.C (Kd.slice 3 (Kd.int .i64)) w A2 l2.length l2) (hc2 : l2.length ≤ c2) (hr3 : Kd.C (Kd.slice 3 (Kd.int .i64)) w A3 l3.length l3) (hc3 : l3.length ≤ c3) (hr4 : Kd.C (Kd.slice 3 (Kd.int .i64)) w A4 l4.length l4) (hc4 : l4.length ≤ c4) (hr5 : Kd.C (Kd.slice 3 (Kd.int .i64)) w A5 l5.length l5) (hc5 : l5.length ≤ c5) (hr6 : Kd.C (Kd.slice 3 (Kd.int .i64)) w A6 l6.length l6) (hc6 : l6.length ≤ c6) (hr7 : Kd.C (Kd.slice 3 (Kd.int .i64)) w A7 l7.length l7) (hc7 : l7.length ≤ c7) (hr8 : Kd.C (Kd.slice 3 (Kd.int .i64)) w A8 l8.length l8) (hc8 : l8.length ≤ c8) (hr9 : Kd.C (Kd.slice 3 (Kd.int .i64)) w A9 l9.length l9) (hc9 : l9.length ≤ c9) (hr : Kd.C k44 w A l.length l) (hc : l.length ≤ c) (h : CrCond k l0 l1 l2 l3 l4 l5 l6 l7 l8 l9 l) :
    Calls Try.prog 3 #[.agg #[.slice A0 l0.length c0, .slice A1 l1.length c1, .slice A2 l2.length c2, .slice A3 l3.length c3, .slice A4 l4.length c4, .slice A5 l5.length c5, .slice A6 l6.length c6, .slice A7 l7.length c7, .slice A8 l8.length c8, .slice A9 l9.length c9], .slice A l.length c] w fun e w' => e = .returned (.bool true) ∧ Below w.heap.size w w' := by
  obtain ⟨fw, h1, h2⟩ := h
  exact ringLaw_calls A0 c0 l0 A1 c1 l1 A2 c2 l2 A3 c3 l3 A4 c4 l4 A5 c5 l5 A6 c6 l6 A7 c7 l7 A8 c8 l8 A9 c9 l9 A c l w hr0 hc0 hr1 hc1 hr2 hc2 hr3 hc3 hr4 hc4 hr5 hc5 hr6 hc6 hr7 hc7 hr8 hc8 hr9 hc9 hr hc k fw h1 h2
end Go.Proofs.Ytccngacadolgfaa.P

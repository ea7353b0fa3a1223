/- cycle.ring: the least ring from a place on. Condition: far's; at most 1000000 steps. -/
import Derived.Test.YtccngacadolgfaaBack
set_option linter.unusedVariables false
set_option linter.unusedSimpArgs false
namespace Go.Proofs.Ytccngacadolgfaa.P
open Go.RowKit Go.Proofs.YtccngacadolgfaaW.PrintWords Go.Proofs.YtccngacadolgfaaW.PrintLast Go.Proofs.YtccngacadolgfaaW.PrintMore

/-- Is it the next place, m steps from home? -/
def isNext (st : List (Int × Int)) (home m k : Int) : Bool := decide (home < k) && decide ((Mp.get st k).getD 0 = m)
def nextAt (nx : List (List Int)) (st : List (Int × Int)) (home m at_ : Int) : Int := ((rd_L1 nx at_).find? (isNext st home m)).getD at_
def ringGo (nx : List (List Int)) (st : List (Int × Int)) (home : Int) : Nat → Int → List Int → List Int
  | 0, _, out => out
  | m + 1, at_, out => ringGo nx st home m (nextAt nx st home ((m : Int) + 1) at_) (out ++ [nextAt nx st home ((m : Int) + 1) at_])
def ringF (nx : List (List Int)) (home : Int) : Option (List Int) := (farF nx home).bind fun st => match Mp.get st home with
  | none => some []
  | some n => if n ≤ 1000000 then some (ringGo nx st home (n - 1).toNat home [home]) else none

theorem nextAt_ok {nx : List (List Int)} (h : OkTo nx) (st : List (Int × Int)) (home m at_ : Int) (h0 : 0 ≤ at_) (h1 : at_ < nx.length) : 0 ≤ nextAt nx st home m at_ ∧ nextAt nx st home m at_ < nx.length := by
  unfold nextAt
  cases hf : (rd_L1 nx at_).find? (isNext st home m) with
  | none => exact ⟨h0, h1⟩
  | some k => exact rdL_mem h at_ k (List.mem_of_find?_eq_some hf)

theorem find_at {p : Int → Bool} {row : List Int} {m : Nat} (h : (row.take m).find? p = none) (hm : m < row.length) (hp : p (rd row m) = true) : row.find? p = some (rd row m) := by
  have e : rd row m = row[m] := by unfold rd; rw [Int.toNat_natCast, List.getD_eq_getElem?_getD, List.getElem?_eq_getElem hm]; rfl
  have h2 : row.find? p = (row.take m ++ row.drop m).find? p := by rw [List.take_append_drop]
  rw [h2, List.find?_append, h, List.drop_eq_getElem_cons hm, List.find?_cons_of_pos (by rw [← e]; exact hp), Option.none_or, e]
theorem find_step {p : Int → Bool} {row : List Int} {m : Nat} (h : (row.take m).find? p = none) (hm : m < row.length) (hp : p (rd row m) = false) : (row.take (m + 1)).find? p = none := by
  rw [take_snoc row m 0 hm, List.find?_append, h, Option.none_or, List.find?_cons_of_neg (by show ¬ p (rd row m) = true; rw [hp]; decide)]
  rfl
theorem get_int (st : List (Int × Int)) (k : Int) : ((Mp.get st k).map fun y => Value.int .i64 y).getD (.int .i64 0) = .int .i64 ((Mp.get st k).getD 0) := by
  cases Mp.get st k <;> rfl

set_option maxRecDepth 100000 in
set_option maxHeartbeats 8000000 in
theorem ring_calls (A0 : Option Addr) (c0 : Nat) (nx : List (List Int)) (home : Int) (w : World) (hr0 : Kd.C kii w A0 nx.length nx) (hc0 : nx.length ≤ c0) (hto : OkTo nx) (hh0 : 0 ≤ home) (hh1 : home < nx.length) (r : List Int) (hf : ringF nx home = some r) :
    Calls Try.prog 21 #[.slice A0 nx.length c0, .int .i64 home] w fun e w' => ∃ v : Value, e = .returned v ∧ Kd.R (Kd.int .i64) 3 w' w.heap.size (fun _ => True) v r ∧ Below w.heap.size w w' := by
  unfold ringF at hf
  obtain ⟨st, hst, hf⟩ := Option.bind_eq_some_iff.1 hf
  have hfar := far_calls A0 c0 nx home w hr0 hc0 hto hh0 hh1 st hst
  have HC := Aside0.mk hr0
  have HT := Aside0.mk hto
  have HFar := Aside0.mk hfar
  have HF := Aside0.mk hf
  clear hr0 hto hfar hf hst
  go_enter Try.func21, Try.ntmps21
  go_upto_region 2 with (go_at_call 29; refine HFar.out.mono ?_; rintro e w1 ⟨bm, rfl, hm, hbm, hb⟩; have HM := Aside0.mk hm; have HB := Aside0.mk hb; clear hm hb)
  have hlk := Mp.run_lookup kleint Try.underlying64 zero_int HM.out home true
  rw [get_mpi] at hlk
  unfold eint at hlk
  cases hget : Mp.get st home with
  | none =>
    rw [hget] at hlk
    simp only [if_true, Option.map_none, Option.getD_none, Option.isSome_none] at hlk
    have hr : [] = r := by have h := HF.out; rw [hget] at h; exact Option.some.inj h
    subst hr
    go_wp2
    go_ret
    exact ⟨_, rfl, Kd.R_nil _ _ _ _ _, HB.out⟩
  | some n =>
    rw [hget] at hlk
    simp only [if_true, Option.map_some, Option.getD_some, Option.isSome_some] at hlk
    have hf2 := HF.out
    rw [hget] at hf2
    by_cases hn : n ≤ 1000000
    · replace hf2 : some (ringGo nx st home (n - 1).toNat home [home]) = some r := by rw [← hf2]; show _ = (if n ≤ 1000000 then _ else none); rw [if_pos hn]
      replace hf2 := Option.some.inj hf2
      have HF2 := Aside0.mk hf2
      clear HF hf2 hget
      go_wp2_with ((with_reducible refine gate_dst (N := 24) rfl ?_); refine Kd.R_lit (w0 := w) (Kd.int .i64) w.heap.size 3 ?hg (N := 24) ?hd (xs := ([home] : List Int)) (inner := [.int .i64 home]) (ok := fun _ => True) (okp := fun _ => True) ?hr ?hp (fun _ hk => hk) trivial HB.out HB.out.size (by simp) ?_; (case hd => rfl); (case hg => rfl); (case hr => first | (go_simp; done) | (go_simp; rfl)); (case hp => exact (Reps.one (show Kd.M (Kd.int .i64) _ _ _ home [.int .i64 home] from rfl) (Reps.none _ _))); intro v2 w2 ho2 hb2 hg2 hn2; have HO2 := Aside0.mk ho2; have HB2 := Aside0.mk hb2; have HM2 := Aside0.mk (HM.out.kept hg2 (by simp)); clear ho2 hb2 hg2 hn2)
      clear HB HM
      go_loopw [6, 8, 9] (fun v6 v8 v9 wr => ∃ (n' at_ : Int) (out : List Int), v6 = .int .i64 n' ∧ v9 = .int .i64 at_ ∧ n' ≤ 1000000 ∧ 0 ≤ at_ ∧ at_ < nx.length ∧ out.length + (n' - 1).toNat ≤ 1000001 ∧ Aside0 (ringGo nx st home (n' - 1).toNat at_ out = r) ∧ Aside0 (Kd.R (Kd.int .i64) 3 wr w.heap.size (fun _ => True) v8 out) ∧ Aside0 (Mp.At wr bm eint (mpi st)) ∧ Aside0 (Below w.heap.size w wr)) (fun v6 _ _ _ => (intOf v6 - 1).toNat)
      case atStart => exact ⟨n, home, [home], rfl, rfl, hn, hh0, hh1, by simp; omega, HF2, HO2, HM2, HB2⟩
      case round =>
        clear HF2 HO2 HM2 HB2
        obtain ⟨wo, rfl⟩ : ∃ wo : World, wo = wr := ⟨_, rfl⟩
        obtain ⟨n', at_, out, rfl, rfl, hnh, ha0, ha1, hol, HF, HO, HM, HB⟩ := hrel
        by_cases hn1 : n' > 1
        · obtain ⟨m1, hm1⟩ : ∃ m1 : Nat, (n' - 1).toNat = m1 + 1 := ⟨(n' - 1).toNat - 1, by omega⟩
          have hm2 : n' - 1 = (m1 : Int) + 1 := by omega
          have hF := HF.out
          rw [hm1] at hF
          unfold ringGo at hF
          rw [← hm2] at hF
          have HF1 := Aside0.mk hF
          obtain ⟨row, hrow⟩ : ∃ row, row = rd_L1 nx at_ := ⟨_, rfl⟩
          obtain ⟨ad, Ar, cr, e1, hx0, hcr, hCr⟩ := at_L1 HC.out at_ ha0 ha1
          cases e1
          replace hx0 := (HB.out.cell (World.block_lt_of_cell? w _ hx0)).trans hx0
          have hrl := rdL_len HT.out at_
          rw [← hrow] at hx0 hcr hCr hrl
          have HCr := Aside0.mk hCr
          have HRow := Aside0.mk hrow
          have pa := eq_true ha0
          have qa := eq_true ha1
          clear hCr hrow hF HF
          go_wp2
          clear hx0
          go_loopw [9, 35] (fun v9 i wr => ∃ m : Nat, m ≤ row.length ∧ v9 = .int .i64 at_ ∧ i = .int .i64 m ∧ (row.take m).find? (isNext st home (n' - 1)) = none ∧ wr = wo) (fun _ i _ => row.length - (intOf i).toNat)
          case atStart => exact ⟨0, Nat.zero_le _, rfl, rfl, rfl, rfl⟩
          case round =>
            obtain ⟨m, hm, rfl, rfl, hfind, rfl⟩ := hrel
            by_cases hlm : m < row.length
            · obtain ⟨k, hk⟩ : ∃ k, k = rd row m := ⟨_, rfl⟩
              obtain ⟨ad2, e2, hy0⟩ := Kd.at_int HCr.out m (by omega) (by omega)
              cases e2
              replace hy0 := (HB.out.cell (World.block_lt_of_cell? w _ hy0)).trans hy0
              rw [← hk] at hy0
              simp only [Int.toNat_natCast] at hy0
              by_cases hkh : k > home
              · have hlk := Mp.run_lookup kleint Try.underlying64 zero_int HM.out k false
                rw [get_mpi] at hlk
                unfold eint at hlk
                simp only [Bool.false_eq_true, if_false] at hlk
                rw [get_int] at hlk
                by_cases hv : (Mp.get st k).getD 0 = n' - 1
                · rw [hv] at hlk
                  have hp : isNext st home (n' - 1) (rd row m) = true := by rw [← hk]; unfold isNext; rw [decide_eq_true hkh, decide_eq_true hv]; rfl
                  have hfa := find_at hfind hlm hp
                  rw [← hk] at hfa
                  clear hp hv hfind hk
                  have hF3 := HF1.out
                  have hnk : nextAt nx st home (n' - 1) at_ = k := by unfold nextAt; rw [← HRow.out, hfa]; rfl
                  have hkok := nextAt_ok HT.out st home (n' - 1) at_ ha0 ha1
                  rw [hnk] at hF3 hkok
                  obtain ⟨hk0, hk1⟩ := hkok
                  clear hfa hnk
                  have HF3 := Aside0.mk hF3
                  clear hF3
                  obtain ⟨Ao, co, rfl⟩ := Kd.R_slice HO.out
                  go_wp2_with (at_builtin; refine Kd.R_append (Kd.int .i64) (w0 := w) w.heap.size rfl (.tmp 52) (.tmp 54) 34 3 (.int .i64 0) 8 rfl Try.underlying34 info3 rfl (by decide) (by omega) (.slice Ao out.length co) out k [.int .i64 k] (fun _ => True) (fun _ => False) rfl rfl rfl (fun _ hk => hk.elim) (fun _ _ => trivial) HO.out HB.out HB.out.size (by omega) ?_; intro v5 w5 ho hb hg hat; have HM5 := Aside0.mk (map_row HM.out HO.out hg); have HO5 := Aside0.mk ho; have HB5 := Aside0.mk hb; clear ho hb hg hat)
                  go_roundw
                  case rel => exact ⟨n' - 1, k, out ++ [k], (by first | rfl | (rw [hm2]) | go_num), rfl, by omega, by omega, by omega, by rw [List.length_append, List.length_singleton]; omega, ⟨by rw [show (n' - 1 - 1).toNat = m1 by omega]; exact HF3.out⟩, HO5, HM5, HB5⟩
                  case measure => simp [intOf]; omega
                · have hp : isNext st home (n' - 1) (rd row m) = false := by rw [← hk]; unfold isNext; rw [decide_eq_true hkh, decide_eq_false hv]; rfl
                  have HFi := Aside0.mk (find_step hfind hlm hp)
                  obtain ⟨vk, hvk⟩ : ∃ vk, vk = (Mp.get st k).getD 0 := ⟨_, rfl⟩
                  rw [← hvk] at hlk hv
                  rw [hm2] at hv
                  have hv2 := eq_false hv
                  clear hp hfind hk hvk
                  go_wp2
                  go_roundw
                  case rel => exact ⟨m + 1, hlm, rfl, by go_num, HFi.out, (by first | exact rfl | trivial)⟩
                  case measure => simp [intOf]; omega
              · have hp : isNext st home (n' - 1) (rd row m) = false := by rw [← hk]; unfold isNext; rw [decide_eq_false (by omega)]; rfl
                have HFi := Aside0.mk (find_step hfind hlm hp)
                clear hp hfind hk
                go_wp2
                go_roundw
                case rel => exact ⟨m + 1, hlm, rfl, by go_num, HFi.out, (by first | exact rfl | trivial)⟩
                case measure => simp [intOf]; omega
            · have hmr : m = row.length := by omega
              subst hmr
              rw [List.take_length] at hfind
              have hF3 := HF1.out
              have hnk : nextAt nx st home (n' - 1) at_ = at_ := by unfold nextAt; rw [← HRow.out, hfind]; rfl
              rw [hnk] at hF3
              clear hfind hnk
              have HF3 := Aside0.mk hF3
              clear hF3
              obtain ⟨Ao, co, rfl⟩ := Kd.R_slice HO.out
              go_wp2_with (at_builtin; refine Kd.R_append (Kd.int .i64) (w0 := w) w.heap.size rfl (.tmp 52) (.tmp 54) 34 3 (.int .i64 0) 8 rfl Try.underlying34 info3 rfl (by decide) (by omega) (.slice Ao out.length co) out at_ [.int .i64 at_] (fun _ => True) (fun _ => False) rfl rfl rfl (fun _ hk => hk.elim) (fun _ _ => trivial) HO.out HB.out HB.out.size (by omega) ?_; intro v5 w5 ho hb hg hat; have HM5 := Aside0.mk (map_row HM.out HO.out hg); have HO5 := Aside0.mk ho; have HB5 := Aside0.mk hb; clear ho hb hg hat)
              go_roundw
              case rel => exact ⟨n' - 1, at_, out ++ [at_], (by first | rfl | (rw [hm2]) | go_num), rfl, by omega, by omega, by omega, by rw [List.length_append, List.length_singleton]; omega, ⟨by rw [show (n' - 1 - 1).toNat = m1 by omega]; exact HF3.out⟩, HO5, HM5, HB5⟩
              case measure => simp [intOf]; omega
        · have hz : (n' - 1).toNat = 0 := by omega
          have hF := HF.out
          rw [hz] at hF
          have hF2 : out = r := hF
          subst hF2
          clear HF hF
          go_wp2
          go_ret
          exact ⟨_, rfl, HO.out, HB.out⟩
    · exfalso
      replace hf2 : (if n ≤ 1000000 then some (ringGo nx st home (n - 1).toNat home [home]) else none) = some r := hf2
      rw [if_neg hn] at hf2
      cases hf2
end Go.Proofs.Ytccngacadolgfaa.P

/- The law of a job as a map's key: two jobs are the same key just if unit and type are the same. No condition. -/
import Derived.Test.YthbpjlfpfpcpbaaQ0
import Derived.Test.YthbpjlfpfpcpbaaMp
import Derived.Laws.StructEq
set_option linter.unusedVariables false
set_option linter.unusedSimpArgs false
namespace Go.Proofs.Ythbpjlfpfpcpbaa.P
open Go.RowKit Go.Proofs.YthbpjlfpfpcpbaaW.PrintWords Go.Proofs.YthbpjlfpfpcpbaaW.PrintLast Go.Proofs.YthbpjlfpfpcpbaaW.PrintMore

instance : DecidableEq S24 := fun a b => decidable_of_iff (a.f0 = b.f0 ∧ a.f1 = b.f1) (by cases a; cases b; simp)
instance : Inhabited S24 := ⟨z24⟩
/-- A job as a value. -/
def ejob (x : S24) : Value := .agg #[.int .i64 x.f0, .int .u8 x.f1]

theorem job_equal (x y : S24) (w : World) : (Op.equal 24 (ejob x) (ejob y)).run Try.prog w = .ok (decide (x = y)) w := by
  have ui := Try.underlying3
  have u8 := Try.underlying5
  have hS : Try.prog.underlying 24 = some (.struct (Try.prog.fieldsOf 24)) := by kernel_rfl
  have hp : Try.prog.stoodInHeld 24 = false := by kernel_rfl
  unfold Op.equal Op.maxDepth ejob
  rw [show (10000 : Nat) = 9999 + 1 from rfl, run_equalIn_agg w 9999 24 _ _ hS hp]
  have hd : decide (x = y) = (x.f0 == y.f0 && x.f1 == y.f1) := by
    obtain ⟨a, b⟩ := x
    obtain ⟨c, d⟩ := y
    by_cases h1 : a = c <;> by_cases h2 : b = d <;> simp [h1, h2]
  rw [hd]
  simp only [Program.fieldsOf, Try.underlying24]
  go_simp
  by_cases h1 : x.f0 = y.f0 <;> by_cases h2 : x.f1 = y.f1 <;> simp [h1, h2]

theorem job_check (em : Bool) (x : S24) (w : World) : (Instr.checkKey em 10000 24 (ejob x)).run Try.prog w = .ok () w := by
  have ui := Try.underlying3
  have u8 := Try.underlying5
  unfold ejob
  obtain ⟨d, hd⟩ : ∃ d, d = 9998 := ⟨_, rfl⟩
  rw [show (10000 : Nat) = d + 1 + 1 from by rw [hd], Instr.checkKey]
  clear hd
  have c1 : ∀ n, (Instr.checkKey em (d + 1) 3 (.int .i64 n)).run Try.prog w = .ok () w := fun n => MapKept.run_checkKey ui (by exact rfl) em d
  have c2 : ∀ n, (Instr.checkKey em (d + 1) 5 (.int .u8 n)).run Try.prog w = .ok () w := fun n => MapKept.run_checkKey u8 (by exact rfl) em d
  simp only [Sem.run_bind, run_underlying Try.underlying24, Result.andThen]
  rw [← Array.forIn_toList]
  simp only [List.forIn_cons, List.forIn_nil, Sem.run_bind]
  go_simp

theorem job_findNow (x : S24) (fs : Array Field) : ∀ (es : List MapEntry) (i : Nat), es ≠ [] → (∀ e ∈ es, ∃ c, e.key = .agg c) → Instr.findNow (.struct fs) (ejob x) es i = none
  | [], _, h, _ => absurd rfl h
  | e :: es, i, _, h => by
    obtain ⟨c, hc⟩ := h e (by simp)
    simp [Instr.findNow, hc, ejob, Instr.sameNow]
theorem job_findAsking (x : S24) (w : World) : ∀ (es : List MapEntry) (l : List (S24 × Value)) (i : Nat), es.map (fun e => (e.key, e.val)) = l.map (fun p => (ejob p.1, p.2)) →
    (Instr.findAsking 24 (ejob x) es i).run Try.prog w = .ok (Mp.findIx x l i) w
  | [], l, i, h => by
    have : l = [] := by simpa using h.symm
    simp [this, Instr.findAsking, Mp.findIx]
  | e :: es, [], i, h => by simp at h
  | e :: es, p :: l, i, h => by
    simp only [List.map_cons, List.cons.injEq, Prod.mk.injEq] at h
    obtain ⟨⟨h1, h2⟩, h3⟩ := h
    have ih := job_findAsking x w es l (i + 1) h3
    simp only [Instr.findAsking, Sem.run_bind, h1, job_equal, Result.andThen_ok, Mp.findIx]
    by_cases hx : x = p.1
    · simp [hx, h2]
    · simp [hx, ih]

theorem kljob : Mp.KL Try.prog 24 ejob where
  find := fun x es l w h => by
    cases es with
    | nil =>
      have : l = [] := by simpa using h.symm
      simp [this, Instr.findKey, Sem.run_bind, run_underlying Try.underlying24, Result.andThen, Instr.findNow, Mp.findIx]
    | cons e es =>
      have hk : ∀ e' ∈ e :: es, ∃ c, e'.key = .agg c := by
        intro e' he'
        have h1 := List.mem_map_of_mem (f := fun e : MapEntry => (e.key, e.val)) he'
        rw [h] at h1
        obtain ⟨p, _, hp⟩ := List.mem_map.1 h1
        simp only [Prod.mk.injEq] at hp
        exact ⟨_, hp.1.symm⟩
      simp only [Instr.findKey, Sem.run_bind, run_underlying Try.underlying24, Result.andThen_ok, job_findNow x _ (e :: es) 0 (by simp) hk]
      exact job_findAsking x w (e :: es) l 0 h
  check := job_check
  bits := fun x => by
    obtain ⟨d, hd⟩ : ∃ d, d = 9998 := ⟨_, rfl⟩
    rw [show (10000 : Nat) = d + 1 + 1 from by rw [hd]]
    simp [ejob, Instr.sameBits]
end Go.Proofs.Ythbpjlfpfpcpbaa.P

import Derived.Test.YtdihockdaccmdaaFall
import Derived.Laws.StructEq
import Derived.ChangeKeysEq
/- falls compared. -/
namespace Cam
open Go Go.RowKit Go.Proofs

theorem part_int (xs : Array Value) (off : Nat) (v : Value) (hx : xs[off]? = some v) (w : World) : (part 3 xs off).run Try.prog w = .ok v w := run_part_plain (w := w) (by kernel_rfl) hx
theorem part_five (xs : Array Value) (off : Nat) (w : World) : (part 22 xs off).run Try.prog w = .ok (.agg (xs.extract off (off + 5))) w := by
  have h1 : (isAgg 22).run Try.prog w = .ok true w := by kernel_rfl
  simp [part, Sem.run_bind, h1]

theorem five_eql (w : World) (d : Nat) (a0 a1 a2 a3 a4 b0 b1 b2 b3 b4 : Int) :
    (Op.equalIn (d + 2) 22 (.agg #[.int .i64 a0, .int .i64 a1, .int .i64 a2, .int .i64 a3, .int .i64 a4]) (.agg #[.int .i64 b0, .int .i64 b1, .int .i64 b2, .int .i64 b3, .int .i64 b4])).run Try.prog w
      = .ok (decide ([a0, a1, a2, a3, a4] = [b0, b1, b2, b3, b4])) w := by
  have hi : ∃ i, Try.prog.info? 3 = some i ∧ i.size = 1 := ⟨_, rfl, rfl⟩
  obtain ⟨i, hi, hs⟩ := hi
  rw [run_equalIn_array w (d + 1) _ _ Try.underlying22 hi]
  have hc : Try.prog.cellsOf 3 = 1 := by kernel_rfl
  have he := fun (a b : Int) => run_equalIn_int (P := Try.prog) w d 3 .i64 .i64 a b Try.underlying3
  rw [hc, show List.range 5 = [0, 1, 2, 3, 4] from rfl]
  simp only [Op.eqItems, Sem.run_bind, Nat.mul_one]
  rw [part_int _ 0 (.int .i64 a0) rfl, Result.andThen_ok, part_int _ 0 (.int .i64 b0) rfl, Result.andThen_ok, he a0 b0, Result.andThen_ok]
  by_cases h0 : a0 = b0
  · simp only [h0, beq_self_eq_true, Bool.not_true, Bool.false_eq_true, if_false, Sem.run_bind]
    rw [part_int _ 1 (.int .i64 a1) rfl, Result.andThen_ok, part_int _ 1 (.int .i64 b1) rfl, Result.andThen_ok, he a1 b1, Result.andThen_ok]
    by_cases h1 : a1 = b1
    · simp only [h1, beq_self_eq_true, Bool.not_true, Bool.false_eq_true, if_false, Sem.run_bind]
      rw [part_int _ 2 (.int .i64 a2) rfl, Result.andThen_ok, part_int _ 2 (.int .i64 b2) rfl, Result.andThen_ok, he a2 b2, Result.andThen_ok]
      by_cases h2 : a2 = b2
      · simp only [h2, beq_self_eq_true, Bool.not_true, Bool.false_eq_true, if_false, Sem.run_bind]
        rw [part_int _ 3 (.int .i64 a3) rfl, Result.andThen_ok, part_int _ 3 (.int .i64 b3) rfl, Result.andThen_ok, he a3 b3, Result.andThen_ok]
        by_cases h3 : a3 = b3
        · simp only [h3, beq_self_eq_true, Bool.not_true, Bool.false_eq_true, if_false, Sem.run_bind]
          rw [part_int _ 4 (.int .i64 a4) rfl, Result.andThen_ok, part_int _ 4 (.int .i64 b4) rfl, Result.andThen_ok, he a4 b4, Result.andThen_ok]
          by_cases h4 : a4 = b4
          · simp [h4]
          · simp [h4]
        · simp [h3]
      · simp [h2]
    · simp [h1]
  · simp [h0]

theorem fall_eql (w : World) (a0 a1 a2 a3 a4 a5 a6 a7 b0 b1 b2 b3 b4 b5 b6 b7 : Int) :
    (binOp .eql 24 (.agg #[.int .i64 a0, .int .i64 a1, .int .i64 a2, .int .i64 a3, .int .i64 a4, .int .i64 a5, .int .i64 a6, .int .i64 a7]) (.agg #[.int .i64 b0, .int .i64 b1, .int .i64 b2, .int .i64 b3, .int .i64 b4, .int .i64 b5, .int .i64 b6, .int .i64 b7])).run Try.prog w
      = .ok (.bool (decide ([a0, a1, a2, a3, a4, a5, a6, a7] = [b0, b1, b2, b3, b4, b5, b6, b7]))) w := by
  have hu : Try.prog.underlying 24 = some (.struct (Try.prog.fieldsOf 24)) := by kernel_rfl
  have hp : Try.prog.stoodInHeld 24 = false := by kernel_rfl
  obtain ⟨f0, f1, f2, f3, hf, t0, t1, t2, t3, o0, o1, o2, o3, m0, m1, m2, m3⟩ : ∃ f0 f1 f2 f3 : Field, (Try.prog.fieldsOf 24).toList = [f0, f1, f2, f3] ∧ f0.type = 3 ∧ f1.type = 3 ∧ f2.type = 22 ∧ f3.type = 3 ∧
      f0.offset = 0 ∧ f1.offset = 1 ∧ f2.offset = 2 ∧ f3.offset = 7 ∧ f0.name ≠ "_" ∧ f1.name ≠ "_" ∧ f2.name ≠ "_" ∧ f3.name ≠ "_" :=
    ⟨_, _, _, _, rfl, rfl, rfl, rfl, rfl, rfl, rfl, rfl, rfl, by decide, by decide, by decide, by decide⟩
  have he := fun (d : Nat) (a b : Int) => run_equalIn_int (P := Try.prog) w d 3 .i64 .i64 a b Try.underlying3
  have h5 := five_eql w 9997 a2 a3 a4 a5 a6 b2 b3 b4 b5 b6
  rw [run_eql_struct, show (10000 : Nat) = 9999 + 1 from rfl, run_equalIn_struct w 9999 _ _ _ hu hp, hf]
  simp only [Op.eqFields, Sem.run_bind, t0, t1, t2, t3, o0, o1, o2, o3, if_pos m0, if_pos m1, if_pos m2, if_pos m3]
  rw [part_int _ 0 (.int .i64 a0) rfl, Result.andThen_ok, part_int _ 0 (.int .i64 b0) rfl, Result.andThen_ok, he 9998 a0 b0, Result.andThen_ok]
  by_cases h0 : a0 = b0
  · simp only [h0, beq_self_eq_true, Bool.not_true, Bool.false_eq_true, if_false, Sem.run_bind]
    rw [part_int _ 1 (.int .i64 a1) rfl, Result.andThen_ok, part_int _ 1 (.int .i64 b1) rfl, Result.andThen_ok, he 9998 a1 b1, Result.andThen_ok]
    by_cases h1 : a1 = b1
    · simp only [h1, beq_self_eq_true, Bool.not_true, Bool.false_eq_true, if_false, Sem.run_bind]
      rw [part_five, Result.andThen_ok, part_five, Result.andThen_ok]
      refine Eq.trans (congrArg (fun z => (Result.andThen (Result.andThen z _) _)) h5) ?_
      rw [Result.andThen_ok]
      by_cases h2 : [a2, a3, a4, a5, a6] = [b2, b3, b4, b5, b6]
      · simp only [h2, decide_true, Bool.not_true, Bool.false_eq_true, if_false, Sem.run_bind]
        rw [part_int _ 7 (.int .i64 a7) rfl, Result.andThen_ok, part_int _ 7 (.int .i64 b7) rfl, Result.andThen_ok, he 9998 a7 b7, Result.andThen_ok]
        simp only [List.cons.injEq, and_true] at h2
        obtain ⟨rfl, rfl, rfl, rfl, rfl⟩ := h2
        by_cases h3 : a7 = b7
        · simp [h3]
        · simp [h3]
      · simp only [List.cons.injEq, and_true] at h2
        simp only [List.cons.injEq, and_true]
        simp [h2]
        intro x1 x2 x3 x4 x5
        exact absurd ⟨x1, x2, x3, x4, x5⟩ h2
    · simp [h1]
  · simp [h0]

end Cam

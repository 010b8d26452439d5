/- Two numbers as values, compared by '=='. -/
import Derived.Test.YtfclmnglckikbaaGreatDoorMNlExt
namespace Go.Proofs.YtfclmnglckikbaaGreatDoor
open Go.RowKit Go.Instr
set_option linter.unusedVariables false

theorem eqIn_nums (P Q M1 M2 : Int) (u : World) : (Op.equalIn 10000 32 (.agg #[.int .i64 2, .int .i64 P, .int .i64 Q, .string ⟨#[]⟩, .int .i64 0]) (.agg #[.int .i64 2, .int .i64 M1, .int .i64 M2, .string ⟨#[]⟩, .int .i64 0])).run Tryz.prog u = .ok ((P == M1) && (Q == M2)) u := by
  by_cases h1 : P = M1
  · by_cases h2 : Q = M2
    · subst h1 h2
      simp [go_sem]
    · have e2 : (Q == M2) = false := by simpa using h2
      subst h1
      simp [go_sem, e2]
  · have e1 : (P == M1) = false := by simpa using h1
    simp [go_sem, e1]
theorem eq_nums (P Q M1 M2 : Int) (u : World) : (binOp .eql 32 (.agg #[.int .i64 2, .int .i64 P, .int .i64 Q, .string ⟨#[]⟩, .int .i64 0]) (.agg #[.int .i64 2, .int .i64 M1, .int .i64 M2, .string ⟨#[]⟩, .int .i64 0])).run Tryz.prog u = .ok (.bool ((P == M1) && (Q == M2))) u := by
  rw [run_eql_struct, eqIn_nums]
  rfl
end Go.Proofs.YtfclmnglckikbaaGreatDoor

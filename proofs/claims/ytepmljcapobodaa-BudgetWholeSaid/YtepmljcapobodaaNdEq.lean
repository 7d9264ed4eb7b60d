/- Containers compared; a budget that cannot be made. -/
import Derived.Test.YtepmljcapobodaaBudW
namespace Go.Proofs.Ytepmljcapobodaa
open Go.RowKit
set_option linter.unusedVariables false
set_option maxRecDepth 100000
theorem eqInNd (d : Nat) (w : World) (a b c e a' b' c' e' : Int) :
    (Op.equalIn (d + 1 + 1) 35 (.agg #[.int .i64 a, .int .i64 b, .int .i64 c, .int .i64 e]) (.agg #[.int .i64 a', .int .i64 b', .int .i64 c', .int .i64 e'])).run Try.prog w =
      .ok (a == a' && (b == b' && (c == c' && e == e'))) w := by
  rw [Op.equalIn]
  simp only [Sem.run_bind, run_underlying Try.underlying35, Result.andThen_ok]
  simp [go_sem]
  by_cases h0 : a = a' <;> simp [h0, go_sem]
  by_cases h1 : b = b' <;> simp [h1, go_sem]
  by_cases h2 : c = c' <;> simp [h2, go_sem]
  by_cases h3 : e = e' <;> simp [h3]
theorem neNd (w : World) (a b c e a' b' c' e' : Int) :
    (binOp .neq 35 (.agg #[.int .i64 a, .int .i64 b, .int .i64 c, .int .i64 e]) (.agg #[.int .i64 a', .int .i64 b', .int .i64 c', .int .i64 e'])).run Try.prog w =
      .ok (.bool (!decide ((⟨a, b, c, e⟩ : Nd) = ⟨a', b', c', e'⟩))) w := by
  have ha := eqInNd 9998 w a b c e a' b' c' e'
  simp only [run_neq_struct]
  simp [go_sem, ha]
  by_cases h0 : a = a' <;> by_cases h1 : b = b' <;> by_cases h2 : c = c' <;> by_cases h3 : e = e' <;> simp [h0, h1, h2, h3]
theorem eqNd (w : World) (a b c e : Int) :
    (binOp .eql 35 (.agg #[.int .i64 a, .int .i64 b, .int .i64 c, .int .i64 e]) (.agg #[.int .i64 a, .int .i64 b, .int .i64 c, .int .i64 e])).run Try.prog w = .ok (.bool true) w := by
  have ha := eqInNd 9998 w a b c e a b c e
  simp only [run_eql_struct]
  simp [go_sem, ha]
end Go.Proofs.Ytepmljcapobodaa

/- Frames of a trap compared: equal, when all ten words are. -/
import Derived.Test.YtkkkmaigcnpmeaaTrapAwake
namespace Go.Proofs.Ytkkkmaigcnpmeaa
open Go.RowKit
set_option linter.unusedVariables false
set_option maxRecDepth 100000
theorem eqArr (d : Nat) (w : World) (a0 a1 a2 a3 a4 a5 a6 a7 b0 b1 b2 b3 b4 b5 b6 b7 : Int) :
    (Op.equalIn (d + 1 + 1) 74 (.agg #[.int .u32 a0, .int .u32 a1, .int .u32 a2, .int .u32 a3, .int .u32 a4, .int .u32 a5, .int .u32 a6, .int .u32 a7]) (.agg #[.int .u32 b0, .int .u32 b1, .int .u32 b2, .int .u32 b3, .int .u32 b4, .int .u32 b5, .int .u32 b6, .int .u32 b7])).run Try.prog w =
      .ok (a0 == b0 && (a1 == b1 && (a2 == b2 && (a3 == b3 && (a4 == b4 && (a5 == b5 && (a6 == b6 && (a7 == b7)))))))) w := by
  rw [Op.equalIn]
  simp only [Sem.run_bind, run_underlying Try.underlying74, Result.andThen_ok]
  simp [go_sem, List.range']
  by_cases h0 : a0 = b0 <;> simp [h0, go_sem]
  by_cases h1 : a1 = b1 <;> simp [h1, go_sem]
  by_cases h2 : a2 = b2 <;> simp [h2, go_sem]
  by_cases h3 : a3 = b3 <;> simp [h3, go_sem]
  by_cases h4 : a4 = b4 <;> simp [h4, go_sem]
  by_cases h5 : a5 = b5 <;> simp [h5, go_sem]
  by_cases h6 : a6 = b6 <;> simp [h6, go_sem]
  by_cases h7 : a7 = b7 <;> simp [h7, go_sem]
theorem eqTrap (w : World) (x0 x1 x2 x3 x4 x5 x6 x7 x8 x9 y0 y1 y2 y3 y4 y5 y6 y7 y8 y9 : Int) :
    (binOp .eql 76 (.agg #[.int .u32 x0, .int .u32 x1, .int .u32 x2, .int .u32 x3, .int .u32 x4, .int .u32 x5, .int .u32 x6, .int .u32 x7, .int .u32 x8, .int .u32 x9]) (.agg #[.int .u32 y0, .int .u32 y1, .int .u32 y2, .int .u32 y3, .int .u32 y4, .int .u32 y5, .int .u32 y6, .int .u32 y7, .int .u32 y8, .int .u32 y9])).run Try.prog w =
      .ok (.bool (decide ([x0, x1, x2, x3, x4, x5, x6, x7, x8, x9] = [y0, y1, y2, y3, y4, y5, y6, y7, y8, y9]))) w := by
  have ha := eqArr 9997 w x0 x1 x2 x3 x4 x5 x6 x7 y0 y1 y2 y3 y4 y5 y6 y7
  simp only [run_eql_struct]
  simp [go_sem, ha]
  (repeat' split) <;> simp_all
theorem neTrap (w : World) (x0 x1 x2 x3 x4 x5 x6 x7 x8 x9 y0 y1 y2 y3 y4 y5 y6 y7 y8 y9 : Int) :
    (binOp .neq 76 (.agg #[.int .u32 x0, .int .u32 x1, .int .u32 x2, .int .u32 x3, .int .u32 x4, .int .u32 x5, .int .u32 x6, .int .u32 x7, .int .u32 x8, .int .u32 x9]) (.agg #[.int .u32 y0, .int .u32 y1, .int .u32 y2, .int .u32 y3, .int .u32 y4, .int .u32 y5, .int .u32 y6, .int .u32 y7, .int .u32 y8, .int .u32 y9])).run Try.prog w =
      .ok (.bool (!decide ([x0, x1, x2, x3, x4, x5, x6, x7, x8, x9] = [y0, y1, y2, y3, y4, y5, y6, y7, y8, y9]))) w := by
  have ha := eqArr 9997 w x0 x1 x2 x3 x4 x5 x6 x7 y0 y1 y2 y3 y4 y5 y6 y7
  simp only [run_neq_struct]
  simp [go_sem, ha]
  (repeat' split) <;> simp_all
  omega
end Go.Proofs.Ytkkkmaigcnpmeaa

/- An entry that is handed in by value. -/
import Derived.Test.YtepmljcapobodaaDoorWord3
import Derived.Test.YtepmljcapobodaaDoorArgs
import Derived.Lib.SmallJoins
namespace Go.Proofs.YtepmljcapobodaaDoor
open Go.ChangeShapes Go.WideShapes Go.ChangeAt Go.RowKit Go.Deep Go.Joins
set_option linter.unusedVariables false
set_option maxRecDepth 100000
def EntIs (v : Value) (e : Ent) : Prop := v = e.val ∧ (Lit.int .i64 e.f).wf = true
theorem cellsEnt : Tryd.prog.cellsOf 69 = 4 := by kernel_rfl
section
variable {H : Type} {enc : TypeId × Value → H} {w : World} {spare : Nat → Bool} {held : Bool}
theorem open_ent {v : Value} {d : DataW H} {p : List MemPlace} {r : Reach} {b0 base : Nat}
    (hv : Value.okWide Tryd.prog w r b0 69 v) (h : DataW.Trod enc Tryd.prog w base spare held 69 v d p) : ∃ e : Ent, EntIs v e := by
  obtain ⟨v0, v1, v2, v3, y0, y1, y2, y3, n, rfl, _, _, g0, g1, g2, g3⟩ := open_agg4 Tryd.underlying69 (by kernel_rfl) cellsEnt hv h
  obtain ⟨x0, e0, _⟩ := DataW.trod_bool Tryd.underlying4 g0
  obtain ⟨x1, e1, _⟩ := DataW.trod_bool Tryd.underlying4 g1
  obtain ⟨x2, e2, _⟩ := DataW.trod_bool Tryd.underlying4 g2
  obtain ⟨x3, e3, _, wf⟩ := DataW.trod_int Tryd.underlying3 g3
  injection e0 with e0; injection e1 with e1; injection e2 with e2; injection e3 with e3
  subst e0; subst e1; subst e2; subst e3
  exact ⟨⟨x0, x1, x2, x3⟩, rfl, wf⟩
end
end Go.Proofs.YtepmljcapobodaaDoor

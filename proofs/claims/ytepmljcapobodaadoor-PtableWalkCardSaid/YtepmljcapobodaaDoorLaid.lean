/- The table of math/bits that the rows of this seat list: what a row's condition gives the walks. -/
import Derived.Test.YtepmljcapobodaaDoorTie
import Derived.Test.YtepmljcapobodaaDoorLib
import Derived.ProofKit
import Derived.LaidMore
import Derived.OpenShut
import Derived.Stop.Joined
import Derived.Lib.LaidTab
import Derived.Shelf.Spec.TrailingZeros
namespace Go.Proofs.YtepmljcapobodaaDoor.Laid
open Go.ChangeShapes Go.WideShapes Go.ChangeAt Go.WideMaps Go.WideElems Go.RowKit
set_option maxRecDepth 100000
def list : List (String × DataW Unit) := [("math/bits.deBruijn64tab", Rows.laid_math_bits_deBruijn64tab)]
def steps : Nat := 14
/-- The door's own heap meets the condition. -/
theorem met (os : Os) (args : Array Value) : laidMetH Tryd.prog list ((World.doorLaid Tryd.prog steps os).forCall (fun _ _ => 0) ⟨#[], args, []⟩).memory :=
  laidMetH_of_parts3 (fuel := 8) (laidMet_of_run' 8 (by kernel_rfl) (by kernel_rfl)) (by kernel_rfl) (by kernel_rfl)
theorem gT : Tryd.prog.globalNamed "math/bits.deBruijn64tab" = some 0 := by kernel_rfl
theorem tT : (Tryd.prog.globals[0]?).map (·.type) = some 179 := by kernel_rfl
theorem cT : Tryd.prog.cellsOf 179 = 64 := by kernel_rfl
theorem c8 : Tryd.prog.cellsOf 5 = 1 := by kernel_rfl
def zs : List Int := Lib.deBruijn64tab.map fun n => Int.ofNat n
theorem data_eq : (Rows.laid_math_bits_deBruijn64tab : DataW Unit) = Lib.tabData .u8 zs := by kernel_rfl
theorem tab {W : World} (h : laidMetH Tryd.prog list W) : TabAt 0 Lib.deBruijn64tab W := by
  rw [MakeChecks.laidMetH_plain _ _ _ (by kernel_rfl)] at h
  unfold list at h
  rw [data_eq] at h
  have hT := Lib.tabIs_of_head gT tT Tryd.underlying179 Tryd.underlying5 c8 cT h
  intro j hj
  have := hT.cell gT j (by simpa [zs] using hj)
  rw [this]
  simp [zs, List.getD, hj]
end Go.Proofs.YtepmljcapobodaaDoor.Laid

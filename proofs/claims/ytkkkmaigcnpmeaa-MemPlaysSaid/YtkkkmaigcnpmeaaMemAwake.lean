/- The example that each statement of layer 2 asks at its end: it answers true. -/
import Derived.Test.YtkkkmaigcnpmeaaMem2
namespace Go.Proofs.Ytkkkmaigcnpmeaa
open Go.RowKit
set_option linter.unusedVariables false
set_option maxRecDepth 100000

set_option maxHeartbeats 400000 in
theorem awake02 (w : World) : Calls Try.prog 28 #[] w fun e w' => e = .returned (.bool true) ∧ Keep nob w w' := by
  go_enter Try.func28, Try.ntmps28
  go_wp2_with fail
  refine Calls.mono (new_ok _ 2 (by decide) (by decide)) ?_
  rintro e w1 ⟨b, f, rfl, M1, hb, hf, K1⟩
  go_wp2_with fail
  refine Calls.mono (write_in M1 1 31 7 (by decide) (by decide) (by decide) (by decide) (by decide)) ?_
  rintro e w2 ⟨rfl, M2, K2⟩
  go_wp2_with fail
  refine Calls.mono (copy_in M2 0 1 (by decide) (by decide) (by decide) (by decide)) ?_
  rintro e w3 ⟨rfl, M3, K3⟩
  go_wp2_with fail
  refine Calls.mono (read_in M3 0 31 (by decide) (by decide) (by decide) (by decide)) ?_
  have hv : updRow (upd (fun _ => 0) ((1 : Int).toNat * 32 + (31 : Int).toNat) 7) (0 : Int).toNat (fun k => upd (fun _ => 0) ((1 : Int).toNat * 32 + (31 : Int).toNat) 7 ((1 : Int).toNat * 32 + k)) ((0 : Int).toNat * 32 + (31 : Int).toNat) = 7 := by decide
  rw [hv]
  clear hv
  rintro e w4 ⟨rfl, K4⟩
  have M4 := M3.next K4
  go_wp2_with fail
  refine Calls.mono (write_out M4 (-1) 0 1 (by decide)) ?_
  rintro e w5 ⟨rfl, K5⟩
  go_wp2
  go_ret
  refine ⟨rfl, ?_⟩
  have A : Keep (fun k => w.heap.size ≤ k) w w2 := K1.nob.trans K2 (fun k hk e => by unfold only at e; omega)
  have B := A.trans K3 (fun k hk e => by unfold only at e; omega)
  exact ((B.then K4).then K5).mono (fun k hk e => by omega)
end Go.Proofs.Ytkkkmaigcnpmeaa

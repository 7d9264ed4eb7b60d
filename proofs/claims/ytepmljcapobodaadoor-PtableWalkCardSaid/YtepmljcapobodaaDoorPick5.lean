/- Contracts of package pick (5): New. -/
import Derived.Test.YtepmljcapobodaaDoorPick4
namespace Go.Proofs.YtepmljcapobodaaDoor
open Go.RowKit
set_option linter.unusedVariables false
set_option maxRecDepth 100000
/-- The set of a range of numbers. -/
def RangeIs (W : Nat → Nat) (a k : Nat) : Prop := ∀ n, memW W n = decide (a ≤ n ∧ n < a + k)
theorem range_turn {W : Nat → Nat} {a k : Nat} (h : RangeIs W a k) : RangeIs (turnW W (a + k)) a (k + 1) := fun n => by
  rw [memW_turn]
  by_cases q : n = a + k
  · rw [if_pos q, h (a + k), q]
    simp
  · rw [if_neg q, h n]
    congr 1
    apply propext
    omega
/-- Inside the loop of New. -/
def NewI (w : World) (a m : Nat) (i : Value) (wr : World) : Prop := ∃ (k : Nat) (W : Nat → Nat), i = .int .i64 k ∧ k ≤ m ∧ SetAt wr w.heap.size W ∧ RangeIs W a k ∧ Keep nob w wr
theorem set_zero (w : World) (T : TypeId) : SetAt (w.alloc (.cells #[.bool true, .int .u64 0, .int .u64 0, .int .u64 0, .int .u64 0, .int .u64 0, .int .u64 0, .int .u64 0, .int .u64 0, .int .u64 0, .int .u64 0, .int .u64 0, .int .u64 0, .int .u64 0, .int .u64 0, .int .u64 0, .int .u64 0] T)) w.heap.size (fun _ => 0) := by
  refine ⟨new_at _ _ _ 0 _ rfl, fun i hi => ?_, fun k => new_free _ _ _ _, fun _ => by decide⟩
  apply new_at
  rcases i with _ | _ | _ | _ | _ | _ | _ | _ | _ | _ | _ | _ | _ | _ | _ | _ | i
  all_goals first | rfl | (exfalso; omega)
set_option maxHeartbeats 1000000 in
theorem set_new (a m : Nat) (h1 : a < 1024) (h2 : m ≤ 1024 - a) (w : World) :
    Calls Tryd.prog 52 #[.int .i64 a, .int .i64 m] w fun r w' => ∃ W, r = .returned (.tuple #[.pointer (some ⟨w.heap.size, 0, none⟩), .int .i64 0]) ∧ SetAt w' w.heap.size W ∧ RangeIs W a m ∧ Keep nob w w' := by
  have t1 : decide ((a : Int) < 0) = false := by simp
  have t2 : decide (1024 ≤ (a : Int)) = false := by simp; omega
  have t3 : decide ((m : Int) < 0) = false := by simp
  have t4 : decide ((1024 - (a : Int)) < m) = false := by simp; omega
  go_enter Tryd.func52, Tryd.ntmps52
  go_wp2_with fail
  have Z := Lib.hid (set_zero w 155)
  go_loopw [27] (fun i wr => NewI w a m i wr) (fun i _ => (m - intOf i).toNat)
  case atStart => exact ⟨0, _, rfl, Nat.zero_le _, Z.out, fun n => by simp [memW], (Keep.refl _ _).alloc _⟩
  case round =>
    obtain ⟨k, W, rfl, hk, S, R, K⟩ := hrel
    have S := Lib.hid S
    have R := Lib.hid R
    have K := Lib.hid K
    by_cases hlt : k < m
    · have t5 : decide ((k : Int) < m) = true := by simp; omega
      go_wp2_with fail
      have e : ((a : Int) + (k : Int)) = ((a + k : Nat) : Int) := by omega
      rw [e]
      refine Calls.mono (turn_ok S.out (a + k) (by omega)) ?_
      rintro r w2 ⟨rfl, S2, K2⟩
      have S2 := Lib.hid S2
      have K2 := Lib.hid K2
      go_wp2_with fail
      go_roundw
      case rel => exact ⟨k + 1, _, by go_num, by omega, S2.out, range_turn R.out, (K.out.nob.trans K2.out (fun q hq e => e)).mono (fun q hq e => by have e : q = w.heap.size := e; omega)⟩
      case measure => simp [intOf]; omega
    · have t5 : decide ((k : Int) < m) = false := by simp; omega
      obtain rfl : k = m := by omega
      go_wp2_with fail
      go_ret2
      exact ⟨W, rfl, S.out, R.out, K.out⟩
end Go.Proofs.YtepmljcapobodaaDoor

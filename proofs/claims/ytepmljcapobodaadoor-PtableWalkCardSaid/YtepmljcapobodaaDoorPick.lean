/- Contracts of package pick: a set of numbers below 1024, as bits of sixteen words. -/
import Derived.Test.YtepmljcapobodaaDoorBits
import Derived.Test.YtepmljcapobodaaDoorOwn
import Derived.Test.YtepmljcapobodaaDoorLaid
import Derived.Deep.QuietTactic
import Derived.BigQuiet
namespace Go.Proofs.YtepmljcapobodaaDoor
open Go.RowKit
set_option linter.unusedVariables false
set_option maxRecDepth 100000
/-- s points at a set that was made; its words are W. -/
structure SetAt (w : World) (s : Nat) (W : Nat → Nat) : Prop where
  made : w.cell? ⟨s, 0, none⟩ = some (.bool true)
  cell : ∀ i, i < 16 → w.cell? ⟨s, 1 + i, none⟩ = some (.int .u64 (W i))
  free : ∀ k, w.frozen? ⟨s, k, none⟩ = false
  lt : ∀ i, W i < 2 ^ 64
theorem SetAt.blt {w : World} {s : Nat} {W : Nat → Nat} (h : SetAt w s W) : s < w.heap.size := World.block_lt_of_cell? _ _ h.made
theorem SetAt.keep {w w' : World} {s : Nat} {W : Nat → Nat} {S : Nat → Prop} (h : SetAt w s W) (k : Keep S w w') (hs : ¬ S s) : SetAt w' s W :=
  ⟨k.some h.made hs, fun i hi => k.some (h.cell i hi) hs, fun i => (k.frozen (p := ⟨s, i, none⟩) h.blt hs).trans (h.free i), h.lt⟩
theorem SetAt.next {w w' : World} {s : Nat} {W : Nat → Nat} (h : SetAt w s W) (k : Keep nob w w') : SetAt w' s W := h.keep k (fun x => x)
theorem bit_of (k : Nat) (hk : k < 64) : IntKind.u64.wrap (2 ^ k) = ((2 ^ k : Nat) : Int) := by
  have hp : 2 ^ k < 2 ^ 64 := Nat.pow_lt_pow_right (by decide) hk
  have e : ((2 : Int) ^ k) = ((2 ^ k : Nat) : Int) := by norm_cast
  have key : ∀ z : Nat, z < 2 ^ 64 → IntKind.u64.wrap (z : Int) = z := fun z hz => IntWalk.u64_in _ (by omega)
  rw [e]
  exact key _ hp
set_option maxHeartbeats 800000 in
theorem turn_ok {w : World} {s : Nat} {W : Nat → Nat} (h : SetAt w s W) (n : Nat) (hn : n < 1024) :
    Calls Tryd.prog 87 #[.pointer (some ⟨s, 0, none⟩), .int .i64 n] w fun r w' => r = .returned (.tuple #[]) ∧ SetAt w' s (turnW W n) ∧ Keep (only s) w w' := by
  have c0 := h.cell (n / 64) (by omega)
  have z0 := h.free (1 + n / 64)
  have b1 : (n : Int) < 1024 := by omega
  have b0 : (0 : Int) ≤ n := by omega
  have H := Lib.hid h
  clear h
  go_enter Tryd.func87, Tryd.ntmps87
  go_wp2_with fail
  go_region
  all_goals
    go_end0
    have e : bits .xor .u64 (W (n / 64) : Int) (IntKind.u64.wrap (2 ^ (n % 64))) = ((W (n / 64) ^^^ 2 ^ (n % 64) : Nat) : Int) := by
      rw [bit_of _ (Nat.mod_lt _ (by decide)), u64_xor_nat _ _ (H.out.lt _) (Nat.pow_lt_pow_right (by decide) (Nat.mod_lt _ (by decide)))]
    refine ⟨rfl, ?_, ((Keep.refl _ _).store _ _).drew⟩
    rw [e]
    have hs : SetAt (w.setCell ⟨s, 1 + n / 64, none⟩ (.int .u64 ((W (n / 64) ^^^ 2 ^ (n % 64) : Nat) : Int))) s (turnW W n) := by
      refine ⟨by rw [setCell_off (by show 1 + n / 64 ≠ 0; omega)]; exact H.out.made, fun i hi => ?_, fun i => by rw [frozen_setCell]; exact H.out.free i, turnW_lt H.out.lt n⟩
      by_cases q : i = n / 64
      · subst q
        rw [setCell_eq (H.out.cell _ hi)]
        unfold turnW
        rw [if_pos rfl]
      · rw [setCell_off (by show 1 + n / 64 ≠ 1 + i; omega), H.out.cell i hi]
        unfold turnW
        rw [if_neg q]
    exact hs.next (Keep.drew (Keep.refl _ _))
theorem asked_ok {w : World} {s : Nat} {W : Nat → Nat} (h : SetAt w s W) (n : Int) (h0 : 0 ≤ n) (h1 : n < 1024) :
    Calls Tryd.prog 88 #[.pointer (some ⟨s, 0, none⟩), .int .i64 n] w fun r w' => r = .returned (.int .i64 0) ∧ w = w' := by
  have c0 := h.made
  have t1 : decide (n < 0) = false := by simpa using h0
  have t2 : decide (1024 ≤ n) = false := by simpa using h1
  clear h
  go_enter Tryd.func88, Tryd.ntmps88
  go_wp2_with fail
  go_ret
  exact ⟨rfl, rfl⟩
/-! ### first -/
set_option maxHeartbeats 400000 in
theorem first1 {w : World} {s : Nat} {W : Nat → Nat} (h : SetAt w s W) (pf ps : Nat) (i : Nat) (hi : i < 16) (hf : w.cell? ⟨pf, 0, none⟩ = some (.int .i64 0)) (hs : w.cell? ⟨ps, 0, none⟩ = some (.pointer (some ⟨s, 0, none⟩))) :
    Calls Tryd.prog 103 #[.int .i64 i, .pointer (some ⟨pf, 0, none⟩), .pointer (some ⟨ps, 0, none⟩)] w fun r w' => r = .returned (.int .u64 (W i)) ∧ ∃ k, w' = w.drewN k := by
  have c0 := h.cell i hi
  have b1 : (i : Int) < 16 := by omega
  have b0 : (0 : Int) ≤ i := by omega
  have hl := h.lt i
  clear h
  by_cases q : i = 0
  · subst q
    go_enter Tryd.func103, Tryd.ntmps103
    replace c0 : w.cell? ⟨s, 1, none⟩ = some (.int .u64 (W 0)) := c0
    go_wp2_with fail
    go_quiet (fail)
    go_wp2_with fail
    go_ret
    exact ⟨rfl, _, rfl⟩
  · have t1 : ((i : Int) == 0) = false := by simp; omega
    have t2 : (i == 0) = false := by simp; omega
    go_enter Tryd.func103, Tryd.ntmps103
    go_wp2_with fail
    go_ret
    exact ⟨rfl, 0, rfl⟩
end Go.Proofs.YtepmljcapobodaaDoor

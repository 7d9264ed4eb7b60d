/- Contracts of package pick (3): Take, Has, Put. -/
import Derived.Test.YtepmljcapobodaaDoorPick2
namespace Go.Proofs.YtepmljcapobodaaDoor
open Go.RowKit
set_option linter.unusedVariables false
set_option maxRecDepth 100000
theorem least_is {W : Nat → Nat} {v : Int} (h : Least W v) {n : Nat} (hn : n < 1024) (hm : memW W n = true) (hl : ∀ m, m < n → memW W m = false) : v = n := by
  rcases h with ⟨-, h⟩ | ⟨k, hk, rfl, h1, h2⟩
  · rw [h n hn] at hm; simp at hm
  · rcases Nat.lt_trichotomy k n with q | q | q
    · rw [hl k q] at h1; simp at h1
    · rw [q]
    · rw [h2 n q] at hm; simp at hm
theorem least_not {W : Nat → Nat} {v : Int} (h : Least W v) (hn : ∀ n, n < 1024 → memW W n = false) : v = -1 := by
  rcases h with ⟨h, -⟩ | ⟨k, hk, rfl, h1, h2⟩
  · exact h
  · rw [hn k hk] at h1; simp at h1
set_option maxHeartbeats 800000 in
theorem take_some {w : World} {s : Nat} {W : Nat → Nat} (h : SetAt w s W) (hT : TabAt 0 Lib.deBruijn64tab w) (n : Nat) (hn : n < 1024) (hm : memW W n = true) (hl : ∀ m, m < n → memW W m = false) :
    Calls Tryd.prog 54 #[.pointer (some ⟨s, 0, none⟩)] w fun r w' => r = .returned (.tuple #[.int .i64 n, .int .i64 0]) ∧ SetAt w' s (turnW W n) ∧ Keep (only s) w w' := by
  have H := Lib.hid h
  have HT := Lib.hid hT
  have HL := Lib.hid hl
  clear h hT hl
  go_enter Tryd.func54, Tryd.ntmps54
  go_wp2_with fail
  refine Calls.mono (asked_ok H.out 0 (by decide) (by decide)) ?_
  rintro r w1 ⟨rfl, rfl⟩
  go_wp2_with fail
  refine Calls.mono (first_ok H.out HT.out) ?_
  rintro r w1 ⟨v, rfl, L, K⟩
  obtain rfl := least_is L hn hm HL.out
  have t1 : decide ((n : Int) < 0) = false := by simp
  have K := Lib.hid K
  clear L
  go_wp2_with fail
  refine Calls.mono (turn_ok (H.out.next K.out) n hn) ?_
  rintro r w2 ⟨rfl, S, K2⟩
  have K2 := Lib.hid K2
  have S := Lib.hid S
  go_wp2_with fail
  go_ret2
  exact ⟨rfl, S.out, K.out.nob.trans K2.out (fun _ _ e => e)⟩
set_option maxHeartbeats 800000 in
theorem take_none {w : World} {s : Nat} {W : Nat → Nat} (h : SetAt w s W) (hT : TabAt 0 Lib.deBruijn64tab w) (hn : ∀ n, n < 1024 → memW W n = false) :
    Calls Tryd.prog 54 #[.pointer (some ⟨s, 0, none⟩)] w fun r w' => r = .returned (.tuple #[.int .i64 0, .int .i64 4]) ∧ Keep nob w w' := by
  have H := Lib.hid h
  have HT := Lib.hid hT
  have HL := Lib.hid hn
  clear h hT hn
  go_enter Tryd.func54, Tryd.ntmps54
  go_wp2_with fail
  refine Calls.mono (asked_ok H.out 0 (by decide) (by decide)) ?_
  rintro r w1 ⟨rfl, rfl⟩
  go_wp2_with fail
  refine Calls.mono (first_ok H.out HT.out) ?_
  rintro r w1 ⟨v, rfl, L, K⟩
  obtain rfl := least_not L HL.out
  have K := Lib.hid K
  clear L
  go_wp2_with fail
  go_ret2
  exact ⟨rfl, K.out⟩
set_option maxHeartbeats 800000 in
theorem has_ok {w : World} {s : Nat} {W : Nat → Nat} (h : SetAt w s W) (n : Nat) (hn : n < 1024) :
    Calls Tryd.prog 91 #[.pointer (some ⟨s, 0, none⟩), .int .i64 n] w fun r w' => r = .returned (.bool (memW W n)) ∧ w = w' := by
  have c0 := h.cell (n / 64) (by omega)
  have b1 : (n : Int) < 1024 := by omega
  have b0 : (0 : Int) ≤ n := by omega
  have H := Lib.hid h
  clear h
  go_enter Tryd.func91, Tryd.ntmps91
  go_wp2_with fail
  refine Calls.mono (asked_ok H.out n b0 b1) ?_
  rintro r w1 ⟨rfl, rfl⟩
  go_wp2_with fail
  go_ret
  have e : bits .and .u64 ((W (n / 64) : Int) / 2 ^ (n % 64)) 1 = ((W (n / 64) / 2 ^ (n % 64) &&& 1 : Nat) : Int) := by
    have q : (W (n / 64) : Int) / 2 ^ (n % 64) = ((W (n / 64) / 2 ^ (n % 64) : Nat) : Int) := by norm_cast
    rw [q]
    exact u64_and_nat _ 1 (Nat.lt_of_le_of_lt (Nat.div_le_self _ _) (H.out.lt _)) (by decide)
  rw [e]
  refine ⟨congrArg (fun b => Ending.returned (.bool b)) ?_, rfl⟩
  show (((W (n / 64) / 2 ^ (n % 64) &&& 1 : Nat) : Int) == 1) = memW W n
  unfold memW
  rw [Nat.testBit, Nat.shiftRight_eq_div_pow, Nat.and_comm 1, Nat.and_one_is_mod]
  rcases Nat.mod_two_eq_zero_or_one (W (n / 64) / 2 ^ (n % 64)) with q | q <;> rw [q] <;> rfl
set_option maxHeartbeats 800000 in
theorem pput_ok {w : World} {s : Nat} {W : Nat → Nat} (h : SetAt w s W) (n : Nat) (hn : n < 1024) (hm : memW W n = false) :
    Calls Tryd.prog 56 #[.pointer (some ⟨s, 0, none⟩), .int .i64 n] w fun r w' => r = .returned (.int .i64 0) ∧ SetAt w' s (turnW W n) ∧ Keep (only s) w w' := by
  have H := Lib.hid h
  clear h
  go_enter Tryd.func56, Tryd.ntmps56
  go_wp2_with fail
  refine Calls.mono (asked_ok H.out n (by omega) (by omega)) ?_
  rintro r w1 ⟨rfl, rfl⟩
  go_wp2_with fail
  refine Calls.mono (has_ok H.out n hn) ?_
  rw [hm]
  rintro r w1 ⟨rfl, rfl⟩
  go_wp2_with fail
  refine Calls.mono (turn_ok H.out n hn) ?_
  rintro r w2 ⟨rfl, S, K2⟩
  have K2 := Lib.hid K2
  have S := Lib.hid S
  go_wp2_with fail
  go_ret
  exact ⟨rfl, S.out, K2.out⟩
end Go.Proofs.YtepmljcapobodaaDoor

/- Contracts of package word, third part: Page, Address, Cut; the reference's Check, Put, Get, Cut; the example. -/
import Derived.Test.YtkkkmaigcnpmeaaWord2
namespace Go.Proofs.Ytkkkmaigcnpmeaa
open Go.RowKit
set_option linter.unusedVariables false
set_option maxRecDepth 100000

theorem page_yes (x : Int) (w : World) (h0 : 0 ≤ x) (h1 : x < 32768) :
    Calls Try.prog 49 #[.int .u32 x] w fun r w' => r = .returned (.tuple #[.int .i64 (x / 32), .int .i64 0]) ∧ w = w' := by
  have t1 : decide (32768 ≤ x) = false := by simp; omega
  go_enter Try.func49, Try.ntmps49
  go_wp2
  go_ret2
  exact ⟨rfl, rfl⟩
theorem page_no (x : Int) (w : World) (h1 : 32768 ≤ x) :
    Calls Try.prog 49 #[.int .u32 x] w fun r w' => r = .returned (.tuple #[.int .i64 0, .int .i64 7]) ∧ w = w' := by
  have t1 : decide (32768 ≤ x) = true := by simpa using h1
  go_enter Try.func49, Try.ntmps49
  go_wp2
  go_ret2
  exact ⟨rfl, rfl⟩
theorem cut_yes (x : Int) (w : World) (h0 : 0 ≤ x) (h1 : x < 32768) :
    Calls Try.prog 47 #[.int .u32 x] w fun r w' => r = .returned (.tuple #[.int .i64 (x / 32 / 32), .int .i64 (x / 32 % 32), .int .i64 (x % 32), .int .i64 0]) ∧ w = w' := by
  go_enter Try.func47, Try.ntmps47
  go_wp2_with fail
  refine Calls.mono (page_yes x _ h0 h1) ?_
  rintro e w1 ⟨rfl, rfl⟩
  go_wp2
  exact bodyPost_ret (v := .tuple #[.int .i64 (x / 32 / 32), .int .i64 (x / 32 % 32), .int .i64 (x % 32), .int .i64 0]) (by simp [results, Try.results47, go_sem]) rfl ⟨rfl, rfl⟩
theorem cut_no (x : Int) (w : World) (h1 : 32768 ≤ x) :
    Calls Try.prog 47 #[.int .u32 x] w fun r w' => r = .returned (.tuple #[.int .i64 0, .int .i64 0, .int .i64 0, .int .i64 7]) ∧ w = w' := by
  go_enter Try.func47, Try.ntmps47
  go_wp2_with fail
  refine Calls.mono (page_no x _ h1) ?_
  rintro e w1 ⟨rfl, rfl⟩
  go_wp2
  exact bodyPost_ret (v := .tuple #[.int .i64 0, .int .i64 0, .int .i64 0, .int .i64 7]) (by simp [results, Try.results47, go_sem]) rfl ⟨rfl, rfl⟩
theorem address_yes (p q : Int) (w : World) (h0 : 0 ≤ p) (h1 : p < 1024) (h2 : 0 ≤ q) (h3 : q < 32) :
    Calls Try.prog 46 #[.int .i64 p, .int .i64 q] w fun r w' => r = .returned (.tuple #[.int .u32 (p * 32 + q), .int .i64 0]) ∧ w = w' := by
  have t1 : decide (p < 0) = false := by simpa using h0
  have t2 : decide (1024 ≤ p) = false := by simpa using h1
  have t3 : decide (q < 0) = false := by simpa using h2
  have t4 : decide (32 ≤ q) = false := by simpa using h3
  go_enter Try.func46, Try.ntmps46
  go_wp2
  go_ret2
  exact ⟨rfl, rfl⟩
theorem address_no (p q : Int) (w : World) (h : ¬ (0 ≤ p ∧ p < 1024 ∧ 0 ≤ q ∧ q < 32)) :
    Calls Try.prog 46 #[.int .i64 p, .int .i64 q] w fun r w' => r = .returned (.tuple #[.int .u32 0, .int .i64 2]) ∧ w = w' := by
  obtain ⟨T1, t1⟩ : ∃ T, decide (p < 0) = T := ⟨_, rfl⟩
  obtain ⟨T2, t2⟩ : ∃ T, decide (1024 ≤ p) = T := ⟨_, rfl⟩
  obtain ⟨T3, t3⟩ : ∃ T, decide (q < 0) = T := ⟨_, rfl⟩
  obtain ⟨T4, t4⟩ : ∃ T, decide (32 ≤ q) = T := ⟨_, rfl⟩
  have HT : (T1 || T2 || T3 || T4) = true := by
    rw [← t1, ← t2, ← t3, ← t4]
    simp only [Bool.or_eq_true, decide_eq_true_eq]
    omega
  clear h
  cases T1 <;> cases T2 <;> cases T3 <;> cases T4 <;> first | (exact absurd HT (by decide)) | skip
  all_goals
    clear HT
    go_enter Try.func46, Try.ntmps46
    go_wp2
    go_ret2
    exact ⟨rfl, rfl⟩

/-! ### The reference's -/
theorem refcut_yes (x : Int) (w : World) (h0 : 0 ≤ x) (h1 : x < 32768) :
    Calls Try.prog 48 #[.int .u32 x] w fun r w' => r = .returned (.tuple #[.int .i64 (x / 1024), .int .i64 (x / 32 % 32), .int .i64 (x % 32), .int .i64 0]) ∧ w = w' := by
  have t1 : decide (32768 ≤ x) = false := by simp; omega
  go_enter Try.func48, Try.ntmps48
  go_wp2
  exact bodyPost_ret (v := .tuple #[.int .i64 (x / 1024), .int .i64 (x / 32 % 32), .int .i64 (x % 32), .int .i64 0]) (by simp [results, Try.results48, go_sem]) rfl ⟨rfl, rfl⟩
theorem refcut_no (x : Int) (w : World) (h1 : 32768 ≤ x) :
    Calls Try.prog 48 #[.int .u32 x] w fun r w' => r = .returned (.tuple #[.int .i64 0, .int .i64 0, .int .i64 0, .int .i64 7]) ∧ w = w' := by
  have t1 : decide (32768 ≤ x) = true := by simpa using h1
  go_enter Try.func48, Try.ntmps48
  go_wp2
  exact bodyPost_ret (v := .tuple #[.int .i64 0, .int .i64 0, .int .i64 0, .int .i64 7]) (by simp [results, Try.results48, go_sem]) rfl ⟨rfl, rfl⟩
set_option maxHeartbeats 1600000 in
theorem refcheck_ok (e : Ent) (w : World) :
    Calls Try.prog 40 #[e.val] w fun r w' => r = .returned (.int .i64 (chk e)) ∧ Keep nob w w' := by
  obtain ⟨p, wr, c, f⟩ := e
  unfold Ent.val
  cases p <;> cases wr <;> cases c
  all_goals
    by_cases h0 : f < 0
    · have t0 : decide (f < 0) = true := by simpa using h0
      go_enter Try.func40, Try.ntmps40
      go_wp2
      go_ret
      exact ⟨ret_int (by simp [chk, okE, show ¬ 0 ≤ f by omega]), Keep.alloc (Keep.refl _ _) _⟩
    have t0 : decide (f < 0) = false := by simpa using h0
    by_cases h1 : 1023 < f
    · have t1 : decide (1023 < f) = true := by simpa using h1
      go_enter Try.func40, Try.ntmps40
      go_wp2
      go_ret
      exact ⟨ret_int (by simp [chk, okE, show ¬ f < 1024 by omega]), Keep.alloc (Keep.refl _ _) _⟩
    have t1 : decide (1023 < f) = false := by simpa using h1
    by_cases h2 : f = 0
    · subst h2
      clear t0 t1 h0 h1
      go_enter Try.func40, Try.ntmps40
      go_wp2
      go_ret
      exact ⟨ret_int (by simp [chk, okE]), Keep.alloc (Keep.refl _ _) _⟩
    have t2 : (f == 0) = false := by simpa using h2
    have t3 : (f != 0) = true := by simpa using h2
    go_enter Try.func40, Try.ntmps40
    go_wp2
    go_ret
    exact ⟨ret_int (by simp [chk, okE, h2, show 0 ≤ f by omega, show f < 1024 by omega]), Keep.alloc (Keep.refl _ _) _⟩
end Go.Proofs.Ytkkkmaigcnpmeaa

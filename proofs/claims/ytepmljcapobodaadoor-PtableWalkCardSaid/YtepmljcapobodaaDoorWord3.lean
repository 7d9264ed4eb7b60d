/- Contracts of package word, third part: Page, Address, Cut; the reference's Check, Put, Get, Cut; the example. -/
import Derived.Test.YtepmljcapobodaaDoorWord2
namespace Go.Proofs.YtepmljcapobodaaDoor
open Go.RowKit
set_option linter.unusedVariables false
set_option maxRecDepth 100000

theorem page_yes (x : Int) (w : World) (h0 : 0 ≤ x) (h1 : x < 32768) :
    Calls Tryd.prog 101 #[.int .u32 x] w fun r w' => r = .returned (.tuple #[.int .i64 (x / 32), .int .i64 0]) ∧ w = w' := by
  have t1 : decide (32768 ≤ x) = false := by simp; omega
  go_enter Tryd.func101, Tryd.ntmps101
  go_wp2
  go_ret2
  exact ⟨rfl, rfl⟩
theorem page_no (x : Int) (w : World) (h1 : 32768 ≤ x) :
    Calls Tryd.prog 101 #[.int .u32 x] w fun r w' => r = .returned (.tuple #[.int .i64 0, .int .i64 7]) ∧ w = w' := by
  have t1 : decide (32768 ≤ x) = true := by simpa using h1
  go_enter Tryd.func101, Tryd.ntmps101
  go_wp2
  go_ret2
  exact ⟨rfl, rfl⟩
theorem cut_yes (x : Int) (w : World) (h0 : 0 ≤ x) (h1 : x < 32768) :
    Calls Tryd.prog 85 #[.int .u32 x] w fun r w' => r = .returned (.tuple #[.int .i64 (x / 32 / 32), .int .i64 (x / 32 % 32), .int .i64 (x % 32), .int .i64 0]) ∧ w = w' := by
  go_enter Tryd.func85, Tryd.ntmps85
  go_wp2_with fail
  refine Calls.mono (page_yes x _ h0 h1) ?_
  rintro e w1 ⟨rfl, rfl⟩
  go_wp2
  exact bodyPost_ret (v := .tuple #[.int .i64 (x / 32 / 32), .int .i64 (x / 32 % 32), .int .i64 (x % 32), .int .i64 0]) (by simp [results, Tryd.results85, go_sem]) rfl ⟨rfl, rfl⟩
theorem cut_no (x : Int) (w : World) (h1 : 32768 ≤ x) :
    Calls Tryd.prog 85 #[.int .u32 x] w fun r w' => r = .returned (.tuple #[.int .i64 0, .int .i64 0, .int .i64 0, .int .i64 7]) ∧ w = w' := by
  go_enter Tryd.func85, Tryd.ntmps85
  go_wp2_with fail
  refine Calls.mono (page_no x _ h1) ?_
  rintro e w1 ⟨rfl, rfl⟩
  go_wp2
  exact bodyPost_ret (v := .tuple #[.int .i64 0, .int .i64 0, .int .i64 0, .int .i64 7]) (by simp [results, Tryd.results85, go_sem]) rfl ⟨rfl, rfl⟩
set_option maxHeartbeats 1600000 in
theorem refcheck_ok (e : Ent) (w : World) :
    Calls Tryd.prog 107 #[e.val] w fun r w' => r = .returned (.int .i64 (chk e)) ∧ Keep nob w w' := by
  obtain ⟨p, wr, c, f⟩ := e
  unfold Ent.val
  cases p <;> cases wr <;> cases c
  all_goals
    by_cases h0 : f < 0
    · have t0 : decide (f < 0) = true := by simpa using h0
      go_enter Tryd.func107, Tryd.ntmps107
      go_wp2
      go_ret
      exact ⟨ret_int (by simp [chk, okE, show ¬ 0 ≤ f by omega]), Keep.alloc (Keep.refl _ _) _⟩
    have t0 : decide (f < 0) = false := by simpa using h0
    by_cases h1 : 1023 < f
    · have t1 : decide (1023 < f) = true := by simpa using h1
      go_enter Tryd.func107, Tryd.ntmps107
      go_wp2
      go_ret
      exact ⟨ret_int (by simp [chk, okE, show ¬ f < 1024 by omega]), Keep.alloc (Keep.refl _ _) _⟩
    have t1 : decide (1023 < f) = false := by simpa using h1
    by_cases h2 : f = 0
    · subst h2
      clear t0 t1 h0 h1
      go_enter Tryd.func107, Tryd.ntmps107
      go_wp2
      go_ret
      exact ⟨ret_int (by simp [chk, okE]), Keep.alloc (Keep.refl _ _) _⟩
    have t2 : (f == 0) = false := by simpa using h2
    have t3 : (f != 0) = true := by simpa using h2
    go_enter Tryd.func107, Tryd.ntmps107
    go_wp2
    go_ret
    exact ⟨ret_int (by simp [chk, okE, h2, show 0 ≤ f by omega, show f < 1024 by omega]), Keep.alloc (Keep.refl _ _) _⟩
end Go.Proofs.YtepmljcapobodaaDoor

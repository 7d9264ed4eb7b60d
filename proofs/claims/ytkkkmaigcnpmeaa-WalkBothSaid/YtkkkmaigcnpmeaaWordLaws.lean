/- The addresses: Cut, Address, Whole, Page. -/
import Derived.Test.YtkkkmaigcnpmeaaWord4
import Derived.Test.YtkkkmaigcnpmeaaArgs
import Derived.Test.YtkkkmaigcnpmeaaHead
namespace Go.Proofs.Ytkkkmaigcnpmeaa
open Go.ChangeShapes Go.WideShapes Go.ChangeAt Go.RowKit
set_option linter.unusedVariables false
set_option maxRecDepth 100000
theorem u32_wf {n : Int} (h : (Lit.int .u32 n).wf = true) : 0 ≤ n ∧ n < 4294967296 := by
  have := bounds_u32 h
  omega
set_option maxHeartbeats 800000 in
theorem wordCut_walk (x : Int) (w : World) (h0 : 0 ≤ x) (h1 : x < 4294967296) :
    Calls Try.prog 14 #[.int .u32 x] w fun e w' => e = .returned (.bool true) ∧ Keep nob w w' := by
  by_cases h : x < 32768
  · have e1 : (x / 32 / 32 == x / 1024) = true := by simp; omega
    have e2 : (x / 32 == x / 1024 * 32 + x / 32 % 32) = true := by simp; omega
    go_enter Try.func14, Try.ntmps14
    go_wp2_with fail
    refine Calls.mono (cut_yes x _ h0 h) ?_
    rintro e w1 ⟨rfl, rfl⟩
    go_wp2_with fail
    refine Calls.mono (refcut_yes x _ h0 h) ?_
    rintro e w1 ⟨rfl, rfl⟩
    go_wp2_with fail
    refine Calls.mono (page_yes x _ h0 h) ?_
    rintro e w1 ⟨rfl, rfl⟩
    go_wp2_with fail
    refine Calls.mono (awake01 _) ?_
    rintro e w1 ⟨rfl, K⟩
    go_wp2
    go_ret
    exact ⟨rfl, K⟩
  · have h : 32768 ≤ x := by omega
    go_enter Try.func14, Try.ntmps14
    go_wp2_with fail
    refine Calls.mono (cut_no x _ h) ?_
    rintro e w1 ⟨rfl, rfl⟩
    go_wp2_with fail
    refine Calls.mono (refcut_no x _ h) ?_
    rintro e w1 ⟨rfl, rfl⟩
    go_wp2_with fail
    refine Calls.mono (page_no x _ h) ?_
    rintro e w1 ⟨rfl, rfl⟩
    go_wp2_with fail
    refine Calls.mono (awake01 _) ?_
    rintro e w1 ⟨rfl, K⟩
    go_wp2
    go_ret
    exact ⟨rfl, K⟩
set_option maxHeartbeats 800000 in
theorem wordAddress_walk (p q : Int) (w : World) :
    Calls Try.prog 13 #[.int .i64 p, .int .i64 q] w fun e w' => e = .returned (.bool true) ∧ Keep nob w w' := by
  by_cases h : 0 ≤ p ∧ p < 1024 ∧ 0 ≤ q ∧ q < 32
  · obtain ⟨h0, h1, h2, h3⟩ := h
    have t1 : decide (p < 0) = false := by simpa using h0
    have t2 : decide (1023 < p) = false := by simp; omega
    have t3 : decide (q < 0) = false := by simpa using h2
    have t4 : decide (31 < q) = false := by simp; omega
    go_enter Try.func13, Try.ntmps13
    go_wp2_with fail
    refine Calls.mono (address_yes p q _ h0 h1 h2 h3) ?_
    rintro e w1 ⟨rfl, rfl⟩
    go_wp2_with fail
    refine Calls.mono (awake01 _) ?_
    rintro e w1 ⟨rfl, K⟩
    go_wp2
    go_ret
    exact ⟨rfl, K⟩
  · obtain ⟨T1, t1⟩ : ∃ T, decide (p < 0) = T := ⟨_, rfl⟩
    obtain ⟨T2, t2⟩ : ∃ T, decide (1023 < p) = T := ⟨_, rfl⟩
    obtain ⟨T3, t3⟩ : ∃ T, decide (q < 0) = T := ⟨_, rfl⟩
    obtain ⟨T4, t4⟩ : ∃ T, decide (31 < q) = T := ⟨_, rfl⟩
    have HT : (T1 || T2 || T3 || T4) = true := by
      rw [← t1, ← t2, ← t3, ← t4]
      simp only [Bool.or_eq_true, decide_eq_true_eq]
      omega
    have H := Lib.hid h
    clear h
    cases T1 <;> cases T2 <;> cases T3 <;> cases T4 <;> first | (exact absurd HT (by decide)) | skip
    all_goals
      clear HT
      go_enter Try.func13, Try.ntmps13
      go_wp2_with fail
      refine Calls.mono (address_no p q _ H.out) ?_
      rintro e w1 ⟨rfl, rfl⟩
      go_wp2_with fail
      refine Calls.mono (awake01 _) ?_
      rintro e w1 ⟨rfl, K⟩
      go_wp2
      go_ret
      exact ⟨rfl, K⟩
end Go.Proofs.Ytkkkmaigcnpmeaa

/- The address of the parts of an address is it, and addresses rise as page, then place. Condition: none. -/
import Derived.Test.YtkkkmaigcnpmeaaWordLaws
namespace Go.Proofs.Ytkkkmaigcnpmeaa.wordWhole
open Go.ChangeShapes Go.WideShapes Go.ChangeAt Go.RowKit
set_option linter.unusedVariables false
set_option maxRecDepth 100000
theorem split (x y : Int) (h0 : 0 ≤ x) (h1 : 0 ≤ y) :
    (decide (x / 32 / 32 < y / 32 / 32) = true ∧ decide (x < y) = true) ∨
    (decide (x / 32 / 32 < y / 32 / 32) = false ∧ (x / 32 / 32 == y / 32 / 32) = false ∧ decide (x < y) = false) ∨
    (decide (x / 32 / 32 < y / 32 / 32) = false ∧ (x / 32 / 32 == y / 32 / 32) = true ∧ decide (x / 32 % 32 < y / 32 % 32) = true ∧ decide (x < y) = true) ∨
    (decide (x / 32 / 32 < y / 32 / 32) = false ∧ (x / 32 / 32 == y / 32 / 32) = true ∧ decide (x / 32 % 32 < y / 32 % 32) = false ∧ (x / 32 % 32 == y / 32 % 32) = false ∧ decide (x < y) = false) ∨
    (decide (x / 32 / 32 < y / 32 / 32) = false ∧ (x / 32 / 32 == y / 32 / 32) = true ∧ decide (x / 32 % 32 < y / 32 % 32) = false ∧ (x / 32 % 32 == y / 32 % 32) = true ∧ decide (x % 32 < y % 32) = true ∧ decide (x < y) = true) ∨
    (decide (x / 32 / 32 < y / 32 / 32) = false ∧ (x / 32 / 32 == y / 32 / 32) = true ∧ decide (x / 32 % 32 < y / 32 % 32) = false ∧ (x / 32 % 32 == y / 32 % 32) = true ∧ decide (x % 32 < y % 32) = false ∧ decide (x < y) = false) := by
  simp only [decide_eq_true_eq, decide_eq_false_iff_not, beq_iff_eq, beq_eq_false_iff_ne, ne_eq]
  omega
set_option maxHeartbeats 1600000 in
theorem walk_in (x y : Int) (w : World) (h0 : 0 ≤ x) (h1 : x < 32768) (k0 : 0 ≤ y) (k1 : y < 32768) :
    Calls Try.prog 15 #[.int .u32 x, .int .u32 y] w fun e w' => e = .returned (.bool true) ∧ Keep nob w w' := by
  have b1 : 0 ≤ x / 32 / 32 := by omega
  have b2 : x / 32 / 32 < 32 := by omega
  have b3 : 0 ≤ x / 32 % 32 := by omega
  have b4 : x / 32 % 32 < 32 := by omega
  have e1 : ((x / 32 / 32 * 32 + x / 32 % 32) * 32 + x % 32 == x) = true := by simp; omega
  have HB := Lib.hid (show 0 ≤ x / 32 / 32 * 32 + x / 32 % 32 ∧ x / 32 / 32 * 32 + x / 32 % 32 < 1024 ∧ 0 ≤ x % 32 ∧ x % 32 < 32 by omega)
  rcases split x y h0 k0 with ⟨t1, t6⟩ | ⟨t1, t2, t6⟩ | ⟨t1, t2, t3, t6⟩ | ⟨t1, t2, t3, t4, t6⟩ | ⟨t1, t2, t3, t4, t5, t6⟩ | ⟨t1, t2, t3, t4, t5, t6⟩
  all_goals
    go_enter Try.func15, Try.ntmps15
    go_wp2_with fail
    refine Calls.mono (cut_yes x _ h0 h1) ?_
    rintro e w1 ⟨rfl, rfl⟩
    go_wp2_with fail
    refine Calls.mono (cut_yes y _ k0 k1) ?_
    rintro e w1 ⟨rfl, rfl⟩
    go_wp2_with fail
    refine Calls.mono (address_yes (x / 32 / 32 * 32 + x / 32 % 32) (x % 32) _ HB.out.1 HB.out.2.1 HB.out.2.2.1 HB.out.2.2.2) ?_
    rintro e w1 ⟨rfl, rfl⟩
    go_wp2_with fail
    refine Calls.mono (awake01 _) ?_
    rintro e w1 ⟨rfl, K⟩
    go_wp2
    go_ret
    exact ⟨rfl, K⟩
set_option maxHeartbeats 1600000 in
theorem walk_else (x y : Int) (w : World) (h0 : 0 ≤ x) (k0 : 0 ≤ y) (h : ¬ (x < 32768 ∧ y < 32768)) :
    Calls Try.prog 15 #[.int .u32 x, .int .u32 y] w fun e w' => e = .returned (.bool true) ∧ Keep nob w w' := by
  by_cases hx : x < 32768
  · have hy : 32768 ≤ y := by omega
    clear h
    go_enter Try.func15, Try.ntmps15
    go_wp2_with fail
    refine Calls.mono (cut_yes x _ h0 hx) ?_
    rintro e w1 ⟨rfl, rfl⟩
    go_wp2_with fail
    refine Calls.mono (cut_no y _ hy) ?_
    rintro e w1 ⟨rfl, rfl⟩
    have t1 : decide (32768 ≤ y) = true := by simpa using hy
    go_wp2_with fail
    refine Calls.mono (awake01 _) ?_
    rintro e w1 ⟨rfl, K⟩
    go_wp2
    go_ret
    exact ⟨rfl, K⟩
  · have hx : 32768 ≤ x := by omega
    have t1 : decide (32768 ≤ x) = true := by simpa using hx
    clear h
    by_cases hy : y < 32768
    · go_enter Try.func15, Try.ntmps15
      go_wp2_with fail
      refine Calls.mono (cut_no x _ hx) ?_
      rintro e w1 ⟨rfl, rfl⟩
      go_wp2_with fail
      refine Calls.mono (cut_yes y _ k0 hy) ?_
      rintro e w1 ⟨rfl, rfl⟩
      go_wp2_with fail
      refine Calls.mono (awake01 _) ?_
      rintro e w1 ⟨rfl, K⟩
      go_wp2
      go_ret
      exact ⟨rfl, K⟩
    · have hy : 32768 ≤ y := by omega
      have t2 : decide (32768 ≤ y) = true := by simpa using hy
      go_enter Try.func15, Try.ntmps15
      go_wp2_with fail
      refine Calls.mono (cut_no x _ hx) ?_
      rintro e w1 ⟨rfl, rfl⟩
      go_wp2_with fail
      refine Calls.mono (cut_no y _ hy) ?_
      rintro e w1 ⟨rfl, rfl⟩
      go_wp2_with fail
      refine Calls.mono (awake01 _) ?_
      rintro e w1 ⟨rfl, K⟩
      go_wp2
      go_ret
      exact ⟨rfl, K⟩
theorem walk (x y : Int) (w : World) (w0 : (Lit.int .u32 x).wf = true) (w1 : (Lit.int .u32 y).wf = true) :
    Calls Try.prog 15 #[.int .u32 x, .int .u32 y] w fun e w' => e = .returned (.bool true) ∧ Keep nob w w' := by
  by_cases h : x < 32768 ∧ y < 32768
  · exact walk_in x y w (u32_wf w0).1 h.1 (u32_wf w1).1 h.2
  · exact walk_else x y w (u32_wf w0).1 (u32_wf w1).1 h
set_option maxRecDepth 100000 in
theorem lifted (os : Os) (started : os.Started) (H : Type) (enc : TypeId × Value → H) :
    ReturnsInHanded {} Try.checked os 15 .any (Rows.wordWholeSpec.pre6 enc Try.prog Try.f15 Rows.wordWholeRow.domain false) (Rows.wordWholeSpec.post enc Try.prog Try.f15 false true false false) := by
  refine returnsInHanded_of_change (C := Try.checked) Head.own started (by kernel_rfl) Try.func15
    (ChangeSpec.witness6 (enc := enc) (C := Try.checked) false ⟨#[], #[.int .u32 0, .int .u32 0], []⟩ 8 (by kernel_rfl) (by kernel_rfl) (by kernel_rfl) (by kernel_rfl)) ?_
  intro W base args ds gs before hval0 hW hcnd _
  have hval : ∀ (j : Nat) t v, Try.f15.params[j]? = some t → args[j]? = some v → Value.okWide Try.prog W .any base t v := hval0
  have hW' := hW
  obtain ⟨p, q, hA0, hV, rfl, hfz, hnd⟩ := hW
  have hA : DataW.TrodAll enc Try.prog W 0 (fun _ => true) true Try.f15.params.toList args.toList ds p := hA0
  rw [Try.params15] at hA hval
  obtain ⟨v0, vs0, d0, ds0, p0, q0, hargs, rfl, rfl, h0, r0⟩ := trodAll_cons hA
  obtain ⟨v1, vs1, d1, ds1, p1, q1, rfl, rfl, rfl, h1, r1⟩ := trodAll_cons r0
  obtain ⟨rfl, rfl, rfl⟩ := trodAll_nil r1
  obtain rfl : args = #[v0, v1] := by cases args; simp_all
  obtain ⟨rfl, rfl⟩ := trodVars_none hV
  have k0 := h0
  have lt0 : ∀ x ∈ p0, x.block < W.heap.size := by obtain ⟨m, hm⟩ := k0; exact DataW.trod_lt m _ _ _ hm
  obtain ⟨a0, rfl, rfl, rfl, w0⟩ := open_int Try.underlying23 (hval 0 23 v0 rfl rfl) h0
  have k1 := h1
  have lt1 : ∀ x ∈ p1, x.block < W.heap.size := by obtain ⟨m, hm⟩ := k1; exact DataW.trod_lt m _ _ _ hm
  obtain ⟨a1, rfl, rfl, rfl, w1⟩ := open_int Try.underlying23 (hval 1 23 v1 rfl rfl) h1
  clear hA0 hval0
  refine (walk a0 a1 W w0 w1).mono fun e W' ⟨he, kp⟩ => ?_
  subst he
  have bel := kp.below
  exact ⟨_, rfl, _, _, _, [], _, [], hW', trodAll_mk1 (shut_bool Try.underlying4 _), (trodAll_cons_mk (shut_int Try.underlying23 w0) (trodAll_cons_mk (shut_int Try.underlying23 w1) trodAll_mk0)), rfl, bel.frame _, fun h => by cases h⟩
theorem closed : joinedFacts Try.prog 15 Try.f15 Rows.wordWholeSpec Rows.wordWholeRow = true := by
  unfold joinedFacts
  rw [Head.mayEnter, Head.liftsFinal, Head.make]
  kernel_rfl
theorem over : Rows.wordWholeRow.holds Try.pinned (OpenSpec.ofChange Rows.wordWholeSpec) :=
  OpenClaim.holds_of_wide 15 Try.f15 rfl rfl rfl rfl rfl rfl rfl ⟨rfl, rfl, rfl, rfl, rfl⟩ rfl rfl rfl rfl rfl (by kernel_rfl) Try.func15 closed
    (of_decide_eq_true (by kernel_rfl)) (by unfold Func.isWrapper; first | (rw [if_pos (by decide +kernel)]; kernel_rfl) | (rw [if_neg (by decide +kernel)]; exact ⟨rfl, rfl⟩))
    (fun os started H enc _ => lifted os started H enc)
theorem proved : Rows.WordWholeSaid := over
end Go.Proofs.Ytkkkmaigcnpmeaa.wordWhole

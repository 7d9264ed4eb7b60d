/- The page of a page's address is it, and the address behind one is the next place of the page, or the first one of the next page. Condition: none. -/
import Derived.Test.YtkkkmaigcnpmeaaWordLaws
namespace Go.Proofs.Ytkkkmaigcnpmeaa.wordPage
open Go.ChangeShapes Go.WideShapes Go.ChangeAt Go.RowKit
set_option linter.unusedVariables false
set_option maxRecDepth 100000
set_option maxHeartbeats 1600000 in
theorem walk_in (p q : Int) (w : World) (h0 : 0 ≤ p) (h1 : p < 1024) (h2 : 0 ≤ q) (h3 : q < 32) :
    Calls Try.prog 16 #[.int .i64 p, .int .i64 q] w fun e w' => e = .returned (.bool true) ∧ Keep nob w w' := by
  have e1 : ((p * 32 + q) / 32 != p) = false := by simp; omega
  have e2 : ((p * 32 + q) % 32 != q) = false := by simp; omega
  have b1 := Lib.hid (show 0 ≤ p * 32 + q ∧ p * 32 + q < 32768 by omega)
  have b2 : 0 ≤ p * 32 + q := by omega
  have b3 : p * 32 + q < 32768 := by omega
  by_cases hq : q = 31
  · have t1 : (q == 31) = true := by simp [hq]
    by_cases hp : p = 1023
    · have t2 : (p == 1023) = true := by simp [hp]
      have b4 := Lib.hid (show 32768 ≤ p * 32 + q + 1 by omega)
      clear hp hq
      go_enter Try.func16, Try.ntmps16
      go_wp2_with fail
      refine Calls.mono (address_yes p q _ h0 h1 h2 h3) ?_
      rintro e w1 ⟨rfl, rfl⟩
      go_wp2_with fail
      refine Calls.mono (page_yes (p * 32 + q) _ b1.out.1 b1.out.2) ?_
      rintro e w1 ⟨rfl, rfl⟩
      go_wp2_with fail
      refine Calls.mono (cut_yes (p * 32 + q) _ b1.out.1 b1.out.2) ?_
      rintro e w1 ⟨rfl, rfl⟩
      go_wp2_with fail
      refine Calls.mono (page_no (p * 32 + q + 1) _ b4.out) ?_
      rintro e w1 ⟨rfl, rfl⟩
      go_wp2_with fail
      refine Calls.mono (awake01 _) ?_
      rintro e w1 ⟨rfl, K⟩
      go_wp2
      go_ret
      exact ⟨rfl, K⟩
    · have t2 : (p == 1023) = false := by simpa using hp
      have b4 := Lib.hid (show 0 ≤ p * 32 + q + 1 ∧ p * 32 + q + 1 < 32768 by omega)
      have t3 : ((p * 32 + q + 1) / 32 == p + 1) = true := by simp; omega
      clear hp hq
      go_enter Try.func16, Try.ntmps16
      go_wp2_with fail
      refine Calls.mono (address_yes p q _ h0 h1 h2 h3) ?_
      rintro e w1 ⟨rfl, rfl⟩
      go_wp2_with fail
      refine Calls.mono (page_yes (p * 32 + q) _ b1.out.1 b1.out.2) ?_
      rintro e w1 ⟨rfl, rfl⟩
      go_wp2_with fail
      refine Calls.mono (cut_yes (p * 32 + q) _ b1.out.1 b1.out.2) ?_
      rintro e w1 ⟨rfl, rfl⟩
      go_wp2_with fail
      refine Calls.mono (page_yes (p * 32 + q + 1) _ b4.out.1 b4.out.2) ?_
      rintro e w1 ⟨rfl, rfl⟩
      go_wp2_with fail
      refine Calls.mono (awake01 _) ?_
      rintro e w1 ⟨rfl, K⟩
      go_wp2
      go_ret
      exact ⟨rfl, K⟩
  · have t1 : (q == 31) = false := by simpa using hq
    have b4 := Lib.hid (show 0 ≤ p * 32 + q + 1 ∧ p * 32 + q + 1 < 32768 by omega)
    have t3 : ((p * 32 + q + 1) / 32 == p) = true := by simp; omega
    obtain ⟨T, t2⟩ : ∃ T, (p == 1023) = T := ⟨_, rfl⟩
    clear hq
    cases T
    all_goals
      go_enter Try.func16, Try.ntmps16
      go_wp2_with fail
      refine Calls.mono (address_yes p q _ h0 h1 h2 h3) ?_
      rintro e w1 ⟨rfl, rfl⟩
      go_wp2_with fail
      refine Calls.mono (page_yes (p * 32 + q) _ b1.out.1 b1.out.2) ?_
      rintro e w1 ⟨rfl, rfl⟩
      go_wp2_with fail
      refine Calls.mono (cut_yes (p * 32 + q) _ b1.out.1 b1.out.2) ?_
      rintro e w1 ⟨rfl, rfl⟩
      go_wp2_with fail
      refine Calls.mono (page_yes (p * 32 + q + 1) _ b4.out.1 b4.out.2) ?_
      rintro e w1 ⟨rfl, rfl⟩
      go_wp2_with fail
      refine Calls.mono (awake01 _) ?_
      rintro e w1 ⟨rfl, K⟩
      go_wp2
      go_ret
      exact ⟨rfl, K⟩
theorem walk (p q : Int) (w : World) (w0 : (Lit.int .i64 p).wf = true) (w1 : (Lit.int .i64 q).wf = true) :
    Calls Try.prog 16 #[.int .i64 p, .int .i64 q] w fun e w' => e = .returned (.bool true) ∧ Keep nob w w' := by
  by_cases h : 0 ≤ p ∧ p < 1024 ∧ 0 ≤ q ∧ q < 32
  · exact walk_in p q w h.1 h.2.1 h.2.2.1 h.2.2.2
  · have H := Lib.hid h
    clear h
    go_enter Try.func16, Try.ntmps16
    go_wp2_with fail
    refine Calls.mono (address_no p q _ H.out) ?_
    rintro e w1 ⟨rfl, rfl⟩
    go_wp2_with fail
    refine Calls.mono (awake01 _) ?_
    rintro e w1 ⟨rfl, K⟩
    go_wp2
    go_ret
    exact ⟨rfl, K⟩
set_option maxRecDepth 100000 in
theorem lifted (os : Os) (started : os.Started) (H : Type) (enc : TypeId × Value → H) :
    ReturnsInHanded {} Try.checked os 16 .any (Rows.wordPageSpec.pre6 enc Try.prog Try.f16 Rows.wordPageRow.domain false) (Rows.wordPageSpec.post enc Try.prog Try.f16 false true false false) := by
  refine returnsInHanded_of_change (C := Try.checked) Head.own started (by kernel_rfl) Try.func16
    (ChangeSpec.witness6 (enc := enc) (C := Try.checked) false ⟨#[], #[.int .i64 0, .int .i64 0], []⟩ 8 (by kernel_rfl) (by kernel_rfl) (by kernel_rfl) (by kernel_rfl)) ?_
  intro W base args ds gs before hval0 hW hcnd _
  have hval : ∀ (j : Nat) t v, Try.f16.params[j]? = some t → args[j]? = some v → Value.okWide Try.prog W .any base t v := hval0
  have hW' := hW
  obtain ⟨p, q, hA0, hV, rfl, hfz, hnd⟩ := hW
  have hA : DataW.TrodAll enc Try.prog W 0 (fun _ => true) true Try.f16.params.toList args.toList ds p := hA0
  rw [Try.params16] at hA hval
  obtain ⟨v0, vs0, d0, ds0, p0, q0, hargs, rfl, rfl, h0, r0⟩ := trodAll_cons hA
  obtain ⟨v1, vs1, d1, ds1, p1, q1, rfl, rfl, rfl, h1, r1⟩ := trodAll_cons r0
  obtain ⟨rfl, rfl, rfl⟩ := trodAll_nil r1
  obtain rfl : args = #[v0, v1] := by cases args; simp_all
  obtain ⟨rfl, rfl⟩ := trodVars_none hV
  have k0 := h0
  have lt0 : ∀ x ∈ p0, x.block < W.heap.size := by obtain ⟨m, hm⟩ := k0; exact DataW.trod_lt m _ _ _ hm
  obtain ⟨a0, rfl, rfl, rfl, w0⟩ := open_int Try.underlying3 (hval 0 3 v0 rfl rfl) h0
  have k1 := h1
  have lt1 : ∀ x ∈ p1, x.block < W.heap.size := by obtain ⟨m, hm⟩ := k1; exact DataW.trod_lt m _ _ _ hm
  obtain ⟨a1, rfl, rfl, rfl, w1⟩ := open_int Try.underlying3 (hval 1 3 v1 rfl rfl) h1
  clear hA0 hval0
  refine (walk a0 a1 W w0 w1).mono fun e W' ⟨he, kp⟩ => ?_
  subst he
  have bel := kp.below
  exact ⟨_, rfl, _, _, _, [], _, [], hW', trodAll_mk1 (shut_bool Try.underlying4 _), (trodAll_cons_mk (shut_int Try.underlying3 w0) (trodAll_cons_mk (shut_int Try.underlying3 w1) trodAll_mk0)), rfl, bel.frame _, fun h => by cases h⟩
theorem closed : joinedFacts Try.prog 16 Try.f16 Rows.wordPageSpec Rows.wordPageRow = true := by
  unfold joinedFacts
  rw [Head.mayEnter, Head.liftsFinal, Head.make]
  kernel_rfl
theorem over : Rows.wordPageRow.holds Try.pinned (OpenSpec.ofChange Rows.wordPageSpec) :=
  OpenClaim.holds_of_wide 16 Try.f16 rfl rfl rfl rfl rfl rfl rfl ⟨rfl, rfl, rfl, rfl, rfl⟩ rfl rfl rfl rfl rfl (by kernel_rfl) Try.func16 closed
    (of_decide_eq_true (by kernel_rfl)) (by unfold Func.isWrapper; first | (rw [if_pos (by decide +kernel)]; kernel_rfl) | (rw [if_neg (by decide +kernel)]; exact ⟨rfl, rfl⟩))
    (fun os started H enc _ => lifted os started H enc)
theorem proved : Rows.WordPageSaid := over
end Go.Proofs.Ytkkkmaigcnpmeaa.wordPage

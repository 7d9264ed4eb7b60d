/- A container that is closed leaves to its own Up what was left of it, and these are carved from that then. Condition: none beyond the statement's own. -/
import Derived.Test.YtepmljcapobodaaNdEq
import Derived.Test.YtepmljcapobodaaHead
namespace Go.Proofs.Ytepmljcapobodaa.budgetGone
open Go.ChangeShapes Go.WideShapes Go.ChangeAt Go.RowKit
set_option linter.unusedVariables false
set_option linter.unusedSimpArgs false
set_option maxRecDepth 100000
set_option maxHeartbeats 1600000 in
theorem walk_in (q a c d : Int) (h0 : 0 ≤ q) (h1 : q ≤ 65536) (w : World) :
    Calls Try.prog 4 #[.int .i64 q, .int .i64 a, .int .i64 c, .int .i64 d] w fun e w' => e = .returned (.bool true) ∧ Keep nob w w' := by
  have C := bw_new w q h0 h1
  replace C := Lib.hid C
  go_enter Try.func4, Try.ntmps4
  go_wp2_with fail
  refine Calls.mono C.out ?_
  rintro r w1 ⟨b, O, rfl, S⟩
  have C1 := bw_open S (by decide) 2 1 a
  by_cases n1 : ¬ opnN [⟨1, 0, q, 0⟩] 2 1 a = 0
  · obtain ⟨c1, hc1⟩ : ∃ c1, opnN [⟨1, 0, q, 0⟩] 2 1 a = c1 := ⟨_, rfl⟩
    rw [hc1] at C1 n1
    have t1 : (c1 != 0) = true := by simpa using n1
    replace C1 := Lib.hid C1
    replace S := Lib.hid S
    replace hc1 := Lib.hid hc1
    replace n1 := Lib.hid n1
    go_wp2_with fail
    refine Calls.mono C1.out ?_
    rintro r w2 ⟨rfl, O2, S2, -, -⟩
    have AW := awake11 w2
    replace S2 := Lib.hid S2
    replace AW := Lib.hid AW
    go_wp2_with fail
    refine Calls.mono AW.out ?_
    rintro r w3 ⟨rfl, K3⟩
    replace K3 := Lib.hid K3
    go_wp2_with fail
    go_ret
    exact ⟨rfl, S2.out.K.then K3.out⟩
  rw [Classical.not_not] at n1
  obtain ⟨⟨-, -, a0, a1⟩, -, -, a2⟩ := opn_ok n1
  have e1 : opnL [⟨1, 0, q, 0⟩] 2 1 a = [⟨1, 0, q, 0⟩, ⟨2, 1, a, 0⟩] := by unfold opnL; rw [if_pos n1]; rfl
  rw [n1, e1] at C1
  replace C1 := Lib.hid C1
  replace S := Lib.hid S
  replace n1 := Lib.hid n1
  replace e1 := Lib.hid e1
  go_wp2_with fail
  refine Calls.mono C1.out ?_
  rintro r w2 ⟨rfl, O2, S2, -, -⟩
  have C2 := bw_open S2 (by decide) 3 2 c
  by_cases n2 : ¬ opnN [⟨1, 0, q, 0⟩, ⟨2, 1, a, 0⟩] 3 2 c = 0
  · obtain ⟨c1, hc1⟩ : ∃ c1, opnN [⟨1, 0, q, 0⟩, ⟨2, 1, a, 0⟩] 3 2 c = c1 := ⟨_, rfl⟩
    rw [hc1] at C2 n2
    have t1 : (c1 != 0) = true := by simpa using n2
    replace C2 := Lib.hid C2
    replace S2 := Lib.hid S2
    replace hc1 := Lib.hid hc1
    replace n2 := Lib.hid n2
    go_wp2_with fail
    refine Calls.mono C2.out ?_
    rintro r w3 ⟨rfl, O3, S3, -, -⟩
    have AW := awake11 w3
    replace S3 := Lib.hid S3
    replace AW := Lib.hid AW
    go_wp2_with fail
    refine Calls.mono AW.out ?_
    rintro r w4 ⟨rfl, K4⟩
    replace K4 := Lib.hid K4
    go_wp2_with fail
    go_ret
    exact ⟨rfl, S3.out.K.then K4.out⟩
  rw [Classical.not_not] at n2
  obtain ⟨⟨-, -, c0, c1⟩, -, -, c2⟩ := opn_ok n2
  have e2 : opnL [⟨1, 0, q, 0⟩, ⟨2, 1, a, 0⟩] 3 2 c = [⟨1, 0, q, 0⟩, ⟨2, 1, a, 0⟩, ⟨3, 2, c, 0⟩] := by unfold opnL; rw [if_pos n2]; rfl
  rw [n2, e2] at C2
  replace C2 := Lib.hid C2
  replace S2 := Lib.hid S2
  replace n2 := Lib.hid n2
  replace e2 := Lib.hid e2
  go_wp2_with fail
  refine Calls.mono C2.out ?_
  rintro r w3 ⟨rfl, O3, S3, -, -⟩
  have C3 := bw_open S3 (by decide) 4 2 d
  by_cases n3 : ¬ opnN [⟨1, 0, q, 0⟩, ⟨2, 1, a, 0⟩, ⟨3, 2, c, 0⟩] 4 2 d = 0
  · obtain ⟨c1, hc1⟩ : ∃ c1, opnN [⟨1, 0, q, 0⟩, ⟨2, 1, a, 0⟩, ⟨3, 2, c, 0⟩] 4 2 d = c1 := ⟨_, rfl⟩
    rw [hc1] at C3 n3
    have t1 : (c1 != 0) = true := by simpa using n3
    replace C3 := Lib.hid C3
    replace S3 := Lib.hid S3
    replace hc1 := Lib.hid hc1
    replace n3 := Lib.hid n3
    go_wp2_with fail
    refine Calls.mono C3.out ?_
    rintro r w4 ⟨rfl, O4, S4, -, -⟩
    have AW := awake11 w4
    replace S4 := Lib.hid S4
    replace AW := Lib.hid AW
    go_wp2_with fail
    refine Calls.mono AW.out ?_
    rintro r w5 ⟨rfl, K5⟩
    replace K5 := Lib.hid K5
    go_wp2_with fail
    go_ret
    exact ⟨rfl, S4.out.K.then K5.out⟩
  rw [Classical.not_not] at n3
  obtain ⟨⟨-, -, d0, d1⟩, -, -, d2⟩ := opn_ok n3
  have e3 : opnL [⟨1, 0, q, 0⟩, ⟨2, 1, a, 0⟩, ⟨3, 2, c, 0⟩] 4 2 d = [⟨1, 0, q, 0⟩, ⟨2, 1, a, 0⟩, ⟨3, 2, c, 0⟩, ⟨4, 2, d, 0⟩] := by unfold opnL; rw [if_pos n3]; rfl
  rw [n3, e3] at C3
  replace C3 := Lib.hid C3
  replace S3 := Lib.hid S3
  replace n3 := Lib.hid n3
  replace e3 := Lib.hid e3
  go_wp2_with fail
  refine Calls.mono C3.out ?_
  rintro r w4 ⟨rfl, O4, S4, -, -⟩
  have l1 : leftN' [⟨1, 0, q, 0⟩, ⟨2, 1, a, 0⟩, ⟨3, 2, c, 0⟩, ⟨4, 2, d, 0⟩] 1 = q - a := by simp [leftN', findN, carvN]
  have C4 := bw_left S4 1
  rw [l1] at C4
  replace C4 := Lib.hid C4
  replace S4 := Lib.hid S4
  go_wp2_with fail
  refine Calls.mono C4.out ?_
  rintro r w5 ⟨rfl, K5⟩
  have S5 := S4.out.next K5
  have n5 : clsN [⟨1, 0, q, 0⟩, ⟨2, 1, a, 0⟩, ⟨3, 2, c, 0⟩, ⟨4, 2, d, 0⟩] 2 = 0 := by simp [clsN, findN, fitsN]
  have e5 : clsL [⟨1, 0, q, 0⟩, ⟨2, 1, a, 0⟩, ⟨3, 2, c, 0⟩, ⟨4, 2, d, 0⟩] 2 = [⟨1, 0, q, 0⟩, ⟨3, 1, c, 0⟩, ⟨4, 1, d, 0⟩] := by rw [clsL_eq n5 rfl]; rfl
  have C5 := bw_close S5 2
  rw [n5, e5] at C5
  replace C5 := Lib.hid C5
  replace S5 := Lib.hid S5
  replace K5 := Lib.hid K5
  go_wp2_with fail
  refine Calls.mono C5.out ?_
  rintro r w6 ⟨rfl, O6, S6, -, -⟩
  have C6 := bw_all S6
  replace C6 := Lib.hid C6
  replace S6 := Lib.hid S6
  go_wp2_with fail
  refine Calls.mono C6.out ?_
  rintro r w7 ⟨v, rfl, row, K7⟩
  have S7 := S6.out.next K7
  obtain ⟨g, cap, rfl, -, -, hcap, src⟩ := own_cells row (by simp)
  have C7 := bw_left S7 1
  rw [show leftN' [⟨1, 0, q, 0⟩, ⟨3, 1, c, 0⟩, ⟨4, 1, d, 0⟩] 1 = q - c - d by simp [leftN', findN, carvN]; omega] at C7
  replace S7 := Lib.hid S7
  replace K7 := Lib.hid K7
  replace C7 := Lib.hid C7
  replace src := Lib.hid src
  replace row := Lib.hid row
  have b1 : IntKind.i64.wrap (q - a + a) = q := (IntWalk.i64_in _ (by omega)).trans (by omega)
  have b2 : IntKind.i64.wrap (q - c) = q - c := IntWalk.i64_in _ (by omega)
  have b3 : IntKind.i64.wrap (q - c - d) = q - c - d := IntWalk.i64_in _ (by omega)
  have eq3 := fun w => eqNd w 3 1 c 0
  have eq4 := fun w => eqNd w 4 1 d 0
  go_wp2_with fail
  refine Calls.mono C7.out ?_
  rintro r w8 ⟨rfl, K8⟩
  have S8 := S7.out.next K8
  have f0 := K8.some (src.out 4 _ rfl).1 (fun x => x)
  have f1 := K8.some (src.out 5 _ rfl).1 (fun x => x)
  have f2 := K8.some (src.out 6 _ rfl).1 (fun x => x)
  have f3 := K8.some (src.out 7 _ rfl).1 (fun x => x)
  have g0 := K8.some (src.out 8 _ rfl).1 (fun x => x)
  have g1 := K8.some (src.out 9 _ rfl).1 (fun x => x)
  have g2 := K8.some (src.out 10 _ rfl).1 (fun x => x)
  have g3 := K8.some (src.out 11 _ rfl).1 (fun x => x)
  have C8 := bw_left S8 3
  rw [show leftN' [⟨1, 0, q, 0⟩, ⟨3, 1, c, 0⟩, ⟨4, 1, d, 0⟩] 3 = c by simp [leftN', findN, carvN]] at C8
  replace S8 := Lib.hid S8
  replace K8 := Lib.hid K8
  replace C8 := Lib.hid C8
  go_wp2_with fail
  refine Calls.mono C8.out ?_
  rintro r w9 ⟨rfl, K9⟩
  have S9 := S8.out.next K9
  have C9 := bw_left S9 4
  rw [show leftN' [⟨1, 0, q, 0⟩, ⟨3, 1, c, 0⟩, ⟨4, 1, d, 0⟩] 4 = d by simp [leftN', findN, carvN]] at C9
  replace S9 := Lib.hid S9
  replace K9 := Lib.hid K9
  replace C9 := Lib.hid C9
  go_wp2_with fail
  refine Calls.mono C9.out ?_
  rintro r w10 ⟨rfl, K10⟩
  have S10 := S9.out.next K10
  have AW := awake11 w10
  replace S10 := Lib.hid S10
  replace K10 := Lib.hid K10
  replace AW := Lib.hid AW
  go_wp2_with fail
  refine Calls.mono AW.out ?_
  rintro r w11 ⟨rfl, K11⟩
  replace K11 := Lib.hid K11
  go_wp2_with fail
  go_ret
  exact ⟨rfl, S10.out.K.then K11.out⟩
theorem walk (q a c d : Int) (w : World) (w0 : (Lit.int .i64 q).wf = true) (w1 : (Lit.int .i64 a).wf = true) (w2 : (Lit.int .i64 c).wf = true) (w3 : (Lit.int .i64 d).wf = true) :
    Calls Try.prog 4 #[.int .i64 q, .int .i64 a, .int .i64 c, .int .i64 d] w fun e w' => e = .returned (.bool true) ∧ Keep nob w w' := by
  by_cases h : 0 ≤ q ∧ q ≤ 65536
  · exact walk_in q a c d h.1 h.2 w
  · have C := new_no w q h
    have AW := awake11 w
    replace C := Lib.hid C
    replace AW := Lib.hid AW
    clear h
    go_enter Try.func4, Try.ntmps4
    go_wp2_with fail
    refine Calls.mono C.out ?_
    rintro r w1 ⟨rfl, rfl⟩
    go_wp2_with fail
    refine Calls.mono AW.out ?_
    rintro r w2 ⟨rfl, K2⟩
    replace K2 := Lib.hid K2
    go_wp2_with fail
    go_ret
    exact ⟨rfl, K2.out⟩
set_option maxRecDepth 100000 in
theorem lifted (os : Os) (started : os.Started) (H : Type) (enc : TypeId × Value → H) :
    ReturnsInHanded {} Try.checked os 4 .any (Rows.budgetGoneSpec.pre6 enc Try.prog Try.f4 Rows.budgetGoneRow.domain false) (Rows.budgetGoneSpec.post enc Try.prog Try.f4 false true false false) := by
  refine returnsInHanded_of_change (C := Try.checked) Head.own started (by kernel_rfl) Try.func4
    (ChangeSpec.witness6 (enc := enc) (C := Try.checked) false ⟨#[], #[.int .i64 0, .int .i64 0, .int .i64 0, .int .i64 0], []⟩ 8 (by kernel_rfl) (by kernel_rfl) (by kernel_rfl) (by kernel_rfl)) ?_
  intro W base args ds gs before hval0 hW hcnd _
  have hval : ∀ (j : Nat) t v, Try.f4.params[j]? = some t → args[j]? = some v → Value.okWide Try.prog W .any base t v := hval0
  have hW' := hW
  obtain ⟨p, q, hA0, hV, rfl, hfz, hnd⟩ := hW
  have hA : DataW.TrodAll enc Try.prog W 0 (fun _ => true) true Try.f4.params.toList args.toList ds p := hA0
  rw [Try.params4] at hA hval
  obtain ⟨v0, vs0, d0, ds0, p0, q0, hargs, rfl, rfl, h0, r0⟩ := trodAll_cons hA
  obtain ⟨v1, vs1, d1, ds1, p1, q1, rfl, rfl, rfl, h1, r1⟩ := trodAll_cons r0
  obtain ⟨v2, vs2, d2, ds2, p2, q2, rfl, rfl, rfl, h2, r2⟩ := trodAll_cons r1
  obtain ⟨v3, vs3, d3, ds3, p3, q3, rfl, rfl, rfl, h3, r3⟩ := trodAll_cons r2
  obtain ⟨rfl, rfl, rfl⟩ := trodAll_nil r3
  obtain rfl : args = #[v0, v1, v2, v3] := by cases args; simp_all
  obtain ⟨rfl, rfl⟩ := trodVars_none hV
  have k0 := h0
  have lt0 : ∀ x ∈ p0, x.block < W.heap.size := by obtain ⟨m, hm⟩ := k0; exact DataW.trod_lt m _ _ _ hm
  obtain ⟨a0, rfl, rfl, rfl, w0⟩ := open_int Try.underlying3 (hval 0 3 v0 rfl rfl) h0
  have k1 := h1
  have lt1 : ∀ x ∈ p1, x.block < W.heap.size := by obtain ⟨m, hm⟩ := k1; exact DataW.trod_lt m _ _ _ hm
  obtain ⟨a1, rfl, rfl, rfl, w1⟩ := open_int Try.underlying3 (hval 1 3 v1 rfl rfl) h1
  have k2 := h2
  have lt2 : ∀ x ∈ p2, x.block < W.heap.size := by obtain ⟨m, hm⟩ := k2; exact DataW.trod_lt m _ _ _ hm
  obtain ⟨a2, rfl, rfl, rfl, w2⟩ := open_int Try.underlying3 (hval 2 3 v2 rfl rfl) h2
  have k3 := h3
  have lt3 : ∀ x ∈ p3, x.block < W.heap.size := by obtain ⟨m, hm⟩ := k3; exact DataW.trod_lt m _ _ _ hm
  obtain ⟨a3, rfl, rfl, rfl, w3⟩ := open_int Try.underlying3 (hval 3 3 v3 rfl rfl) h3
  clear hA0 hval0
  refine (walk a0 a1 a2 a3 W w0 w1 w2 w3).mono fun e W' ⟨he, kp⟩ => ?_
  subst he
  have bel := kp.below
  exact ⟨_, rfl, _, _, _, [], _, [], hW', trodAll_mk1 (shut_bool Try.underlying4 _), (trodAll_cons_mk (shut_int Try.underlying3 w0) (trodAll_cons_mk (shut_int Try.underlying3 w1) (trodAll_cons_mk (shut_int Try.underlying3 w2) (trodAll_cons_mk (shut_int Try.underlying3 w3) trodAll_mk0)))), rfl, bel.frame _, fun h => by cases h⟩
theorem closed : joinedFacts Try.prog 4 Try.f4 Rows.budgetGoneSpec Rows.budgetGoneRow = true := by
  unfold joinedFacts
  rw [Head.mayEnter, Head.liftsFinal, Head.make]
  kernel_rfl
theorem over : Rows.budgetGoneRow.holds Try.pinned (OpenSpec.ofChange Rows.budgetGoneSpec) :=
  OpenClaim.holds_of_wide 4 Try.f4 rfl rfl rfl rfl rfl rfl rfl ⟨rfl, rfl, rfl, rfl, rfl⟩ rfl rfl rfl rfl rfl (by kernel_rfl) Try.func4 closed
    (of_decide_eq_true (by kernel_rfl)) (by unfold Func.isWrapper; first | (rw [if_pos (by decide +kernel)]; kernel_rfl) | (rw [if_neg (by decide +kernel)]; exact ⟨rfl, rfl⟩))
    (fun os started H enc _ => lifted os started H enc)
theorem proved : Rows.BudgetGoneSaid := over
end Go.Proofs.Ytepmljcapobodaa.budgetGone

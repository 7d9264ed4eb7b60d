/- Containers that are carved one out of the other have what they were given, and the last one may use no more than that. Condition: none beyond the statement's own. -/
import Derived.Test.YtepmljcapobodaaBudW
import Derived.Test.YtepmljcapobodaaHead
namespace Go.Proofs.Ytepmljcapobodaa.budgetDeep
open Go.ChangeShapes Go.WideShapes Go.ChangeAt Go.RowKit
set_option linter.unusedVariables false
set_option linter.unusedSimpArgs false
set_option maxRecDepth 100000
def InvD (w : World) (b many : Nat) (hv iv : Value) (wr : World) : Prop :=
  ∃ (e : Nat) (h : Int) (O : Nat → Prop) (q : Nat) (l : List Nd) (x : Nd), iv = .int .i64 (e : Nat) ∧ hv = .int .i64 h ∧ 2 ≤ e ∧ e ≤ many + 2 ∧ Bw w wr b O q l ∧ q ≤ e ∧ findN l ((e : Int) - 1) = some x ∧ x.us = 0 ∧ leftN' l ((e : Int) - 1) = h ∧ ∀ j : Int, (e : Int) ≤ j → findN l j = none
theorem deep_no {l : List Nd} {e : Nat} {h less : Int} (hl : h < less) (h0 : 0 ≤ less) : opnN l e ((e : Int) - 1) (h - less) = 2 := by
  unfold opnN
  rw [if_neg]
  rw [Bool.and_eq_true, fitsN_iff]
  omega
theorem deep_yes {l : List Nd} {e : Nat} {h less : Int} {x : Nd} (he : 2 ≤ e) (he2 : e ≤ 8) (h0 : 0 ≤ h) (h1 : h ≤ 65536) (l0 : 0 ≤ less) (hl : less ≤ h) (hx : findN l ((e : Int) - 1) = some x) (hlf : leftN' l ((e : Int) - 1) = h) (hn : findN l e = none) :
    opnN l e ((e : Int) - 1) (h - less) = 0 := by
  unfold opnN
  rw [if_pos, hx, hn, hlf, if_neg (by simp), if_neg (by simp), if_neg (by omega)]
  rw [Bool.and_eq_true, fitsN_iff, fitsN_iff]
  omega
set_option maxHeartbeats 1600000 in
theorem walk_in (q less : Int) (many : Nat) (h0 : 0 ≤ q) (h1 : q ≤ 65536) (l0 : 0 ≤ less) (l1 : less < 9223372036854775808) (m0 : 1 ≤ many) (m1 : many ≤ 7) (w : World) :
    Calls Try.prog 3 #[.int .i64 q, .int .i64 less, .int .i64 many] w fun e w' => e = .returned (.bool true) ∧ Keep nob w w' := by
  have C := bw_new w q h0 h1
  have t1 : decide (less < 0) = false := by simp; omega
  have t2 : decide ((many : Int) < 1) = false := by simp; omega
  have t3 : decide ((7 : Int) < many) = false := by simp; omega
  replace C := Lib.hid C
  go_enter Try.func3, Try.ntmps3
  go_wp2_with fail
  refine Calls.mono C.out ?_
  rintro r w1 ⟨b, O, rfl, S⟩
  replace S := Lib.hid S
  go_wp2_with fail
  go_loopw [9, 10] (fun hv iv wr => InvD w b many hv iv wr) (fun _ iv _ => ((many : Int) + 2 - intOf iv).toNat)
  case atStart => exact ⟨2, q, O, 1, _, ⟨1, 0, q, 0⟩, rfl, rfl, by omega, by omega, S.out, by omega, rfl, rfl, by simp [leftN', findN, carvN], fun j hj => by rw [findN_cons, if_neg (by show ¬ (1 : Int) = j; omega)]; rfl⟩
  case round =>
    obtain ⟨e, h, O, q', l, x, rfl, rfl, he, he2, S, hq, hx, hu, hlf, hn⟩ := hrel
    have hh := S.G.left ((e : Int) - 1)
    rw [hlf] at hh
    obtain ⟨a0, a1⟩ := hh
    have e0 : (2 : Int) ≤ e := by omega
    have e1 : (e : Int) ≤ 9 := by omega
    have mm0 : (1 : Int) ≤ many := by omega
    have mm1 : (many : Int) ≤ 7 := by omega
    by_cases hlt : e ≤ many + 1
    · have t4 : decide ((e : Int) ≤ (many : Int) + 1) = true := by simp; omega
      have C1 := bw_open S (by omega) e ((e : Int) - 1) (h - less)
      have b1 : IntKind.i64.wrap (h - less) = h - less := IntWalk.i64_in _ (by omega)
      by_cases hl : less ≤ h
      · have n1 := deep_yes he (by omega) a0 a1 l0 hl hx hlf (hn e (by omega))
        have f1 := opn_left n1 S.G
        have lnew : opnL l e ((e : Int) - 1) (h - less) = insN l ⟨e, (e : Int) - 1, h - less, 0⟩ := by unfold opnL; rw [if_pos n1]
        rw [n1, lnew] at C1
        have t5 : decide (less ≤ h) = true := by simpa using hl
        replace C1 := Lib.hid C1
        replace S := Lib.hid S
        replace hx := Lib.hid hx
        replace hlf := Lib.hid hlf
        replace hn := Lib.hid hn
        replace n1 := Lib.hid n1
        replace f1 := Lib.hid f1
        replace hu := Lib.hid hu
        replace lnew := Lib.hid lnew
        go_wp2_with fail
        refine Calls.mono C1.out ?_
        rintro r w2 ⟨rfl, O2, S2, -, -⟩
        have C2 := bw_left S2 ((e : Int) - 1)
        rw [f1.out, if_neg (by omega), if_pos rfl, hlf.out, show h - (h - less) = less by omega] at C2
        replace C2 := Lib.hid C2
        replace S2 := Lib.hid S2
        go_wp2_with fail
        refine Calls.mono C2.out ?_
        rintro r w3 ⟨rfl, K3⟩
        have S3 := S2.out.next K3
        have C3 := bw_left S3 e
        rw [f1.out, if_pos rfl] at C3
        replace C3 := Lib.hid C3
        replace S3 := Lib.hid S3
        replace K3 := Lib.hid K3
        go_wp2_with fail
        refine Calls.mono C3.out ?_
        rintro r w4 ⟨rfl, K4⟩
        have S4 := S3.out.next K4
        replace S4 := Lib.hid S4
        replace K4 := Lib.hid K4
        go_wp2_with fail
        go_roundw
        case rel =>
          refine ⟨e + 1, h - less, O2, _, _, ⟨e, (e : Int) - 1, h - less, 0⟩, by go_num, rfl, by omega, by omega, S4.out, by omega, ?_, rfl, ?_, fun j hj => ?_⟩
          · rw [ins_find (hn.out e (by omega)), if_pos (by show (e : Int) = _; omega)]
          · rw [f1.out, if_pos (by omega)]
          · rw [ins_find (hn.out e (by omega)), if_neg (by show ¬ (e : Int) = j; omega)]
            exact hn.out j (by omega)
        case measure => simp [intOf]; omega
      · have n1 := deep_no (l := l) (e := e) (h := h) (less := less) (by omega) l0
        rw [n1] at C1
        have t5 : decide (less ≤ h) = false := by simpa using hl
        replace C1 := Lib.hid C1
        replace S := Lib.hid S
        replace hx := Lib.hid hx
        replace hlf := Lib.hid hlf
        replace hn := Lib.hid hn
        replace n1 := Lib.hid n1
        replace hu := Lib.hid hu
        go_wp2_with fail
        refine Calls.mono C1.out ?_
        rintro r w2 ⟨rfl, O2, S2, -, -⟩
        have AW := awake11 w2
        replace S2 := Lib.hid S2
        replace AW := Lib.hid AW
        go_wp2_with fail
        refine Calls.mono AW.out ?_
        rintro r w3 ⟨rfl, K3⟩
        replace K3 := Lib.hid K3
        go_wp2_with fail
        go_ret
        exact ⟨rfl, S2.out.K.then K3.out⟩
    · have he3 : (e : Int) - 1 = (many : Int) + 1 := by omega
      rw [he3] at hx hlf
      have t4 : decide ((e : Int) ≤ (many : Int) + 1) = false := by simp; omega
      have C1 := bw_charge S ((many : Int) + 1) (h + 1)
      have nz : chgN l ((many : Int) + 1) (h + 1) ≠ 0 := by
        unfold chgN
        split
        · rw [hx]
          dsimp only
          rw [hlf, if_pos (by omega)]
          decide
        · decide
      have lsame : chgL l ((many : Int) + 1) (h + 1) = l := by unfold chgL; rw [if_neg nz]
      rw [lsame] at C1
      obtain ⟨c1, hc1⟩ : ∃ c1, chgN l ((many : Int) + 1) (h + 1) = c1 := ⟨_, rfl⟩
      rw [hc1] at C1 nz
      have t6 : (c1 != 0) = true := by simpa using nz
      have n2 : chgN l ((many : Int) + 1) h = 0 := by
        unfold chgN
        rw [if_pos (fitsN_iff.2 (by omega)), hx]
        dsimp only
        rw [hlf, if_neg (by omega)]
      have l2 : chgL l ((many : Int) + 1) h = l.map (addU ((many : Int) + 1) h) := by unfold chgL; rw [if_pos n2]
      replace C1 := Lib.hid C1
      replace S := Lib.hid S
      replace hx := Lib.hid hx
      replace hlf := Lib.hid hlf
      replace hn := Lib.hid hn
      replace hu := Lib.hid hu
      replace hc1 := Lib.hid hc1
      replace nz := Lib.hid nz
      go_wp2_with fail
      refine Calls.mono C1.out ?_
      rintro r w2 ⟨rfl, O2, S2, -, -⟩
      have C2 := bw_charge S2 ((many : Int) + 1) h
      rw [n2, l2] at C2
      replace C2 := Lib.hid C2
      replace S2 := Lib.hid S2
      go_wp2_with fail
      refine Calls.mono C2.out ?_
      rintro r w3 ⟨rfl, O3, S3, -, -⟩
      have C3 := bw_left S3 ((many : Int) + 1)
      rw [add_left, if_pos ⟨rfl, by rw [hx.out]; simp⟩, hlf.out, Int.sub_self] at C3
      replace C3 := Lib.hid C3
      replace S3 := Lib.hid S3
      go_wp2_with fail
      refine Calls.mono C3.out ?_
      rintro r w4 ⟨rfl, K4⟩
      have S4 := S3.out.next K4
      by_cases hz : h = 0
      · subst hz
        have AW := awake11 w4
        replace S4 := Lib.hid S4
        replace K4 := Lib.hid K4
        replace AW := Lib.hid AW
        go_wp2_with fail
        refine Calls.mono AW.out ?_
        rintro r w5 ⟨rfl, K5⟩
        replace K5 := Lib.hid K5
        go_wp2_with fail
        go_ret
        exact ⟨rfl, S4.out.K.then K5.out⟩
      · have t7 : (h == 0) = false := by simpa using hz
        have C4 := bw_close S4 ((many : Int) + 1)
        have n4 : clsN (l.map (addU ((many : Int) + 1) h)) ((many : Int) + 1) = 9 := by
          unfold clsN
          rw [if_pos (fitsN_iff.2 (by omega)), add_find, hx.out]
          have hid := (findN_some hx.out).2
          simp only [Option.map_some, addU, hid, if_true]
          rw [if_pos]
          right
          rw [hu.out]
          omega
        rw [n4] at C4
        replace S4 := Lib.hid S4
        replace K4 := Lib.hid K4
        replace C4 := Lib.hid C4
        go_wp2_with fail
        refine Calls.mono C4.out ?_
        rintro r w5 ⟨rfl, O5, S5, -, -⟩
        have AW := awake11 w5
        replace S5 := Lib.hid S5
        replace AW := Lib.hid AW
        go_wp2_with fail
        refine Calls.mono AW.out ?_
        rintro r w6 ⟨rfl, K6⟩
        replace K6 := Lib.hid K6
        go_wp2_with fail
        go_ret
        exact ⟨rfl, S5.out.K.then K6.out⟩
theorem else_1 (q less many : Int) (h0 : 0 ≤ q) (h1 : q ≤ 65536) (t1 : decide (less < 0) = true) (w : World) :
    Calls Try.prog 3 #[.int .i64 q, .int .i64 less, .int .i64 many] w fun e w' => e = .returned (.bool true) ∧ Keep nob w w' := by
  have C := bw_new w q h0 h1
  replace C := Lib.hid C
  go_enter Try.func3, Try.ntmps3
  go_wp2_with fail
  refine Calls.mono C.out ?_
  rintro r w1 ⟨b, O, rfl, S⟩
  have AW := awake11 w1
  replace S := Lib.hid S
  replace AW := Lib.hid AW
  go_wp2_with fail
  refine Calls.mono AW.out ?_
  rintro r w3 ⟨rfl, K3⟩
  replace K3 := Lib.hid K3
  go_wp2_with fail
  go_ret
  exact ⟨rfl, S.out.K.then K3.out⟩
theorem else_2 (q less many : Int) (h0 : 0 ≤ q) (h1 : q ≤ 65536) (t1 : decide (less < 0) = false) (t2 : decide (many < 1) = true) (w : World) :
    Calls Try.prog 3 #[.int .i64 q, .int .i64 less, .int .i64 many] w fun e w' => e = .returned (.bool true) ∧ Keep nob w w' := by
  have C := bw_new w q h0 h1
  replace C := Lib.hid C
  go_enter Try.func3, Try.ntmps3
  go_wp2_with fail
  refine Calls.mono C.out ?_
  rintro r w1 ⟨b, O, rfl, S⟩
  have AW := awake11 w1
  replace S := Lib.hid S
  replace AW := Lib.hid AW
  go_wp2_with fail
  refine Calls.mono AW.out ?_
  rintro r w3 ⟨rfl, K3⟩
  replace K3 := Lib.hid K3
  go_wp2_with fail
  go_ret
  exact ⟨rfl, S.out.K.then K3.out⟩
theorem else_3 (q less many : Int) (h0 : 0 ≤ q) (h1 : q ≤ 65536) (t1 : decide (less < 0) = false) (t2 : decide (many < 1) = false) (t3 : decide (7 < many) = true) (w : World) :
    Calls Try.prog 3 #[.int .i64 q, .int .i64 less, .int .i64 many] w fun e w' => e = .returned (.bool true) ∧ Keep nob w w' := by
  have C := bw_new w q h0 h1
  replace C := Lib.hid C
  go_enter Try.func3, Try.ntmps3
  go_wp2_with fail
  refine Calls.mono C.out ?_
  rintro r w1 ⟨b, O, rfl, S⟩
  have AW := awake11 w1
  replace S := Lib.hid S
  replace AW := Lib.hid AW
  go_wp2_with fail
  refine Calls.mono AW.out ?_
  rintro r w3 ⟨rfl, K3⟩
  replace K3 := Lib.hid K3
  go_wp2_with fail
  go_ret
  exact ⟨rfl, S.out.K.then K3.out⟩
theorem walk (q less many : Int) (w : World) (w0 : (Lit.int .i64 q).wf = true) (w1 : (Lit.int .i64 less).wf = true) (w2 : (Lit.int .i64 many).wf = true) :
    Calls Try.prog 3 #[.int .i64 q, .int .i64 less, .int .i64 many] w fun e w' => e = .returned (.bool true) ∧ Keep nob w w' := by
  have bl := wfI_of w1
  by_cases h : 0 ≤ q ∧ q ≤ 65536
  · by_cases h1 : less < 0
    · exact else_1 q less many h.1 h.2 (decide_eq_true h1) w
    by_cases h2 : many < 1
    · exact else_2 q less many h.1 h.2 (decide_eq_false h1) (decide_eq_true h2) w
    by_cases h3 : 7 < many
    · exact else_3 q less many h.1 h.2 (decide_eq_false h1) (decide_eq_false h2) (decide_eq_true h3) w
    obtain ⟨m, rfl⟩ : ∃ m : Nat, many = m := ⟨many.toNat, by omega⟩
    exact walk_in q less m h.1 h.2 (by omega) bl.2 (by omega) (by omega) w
  · have C := new_no w q h
    have AW := awake11 w
    replace C := Lib.hid C
    replace AW := Lib.hid AW
    clear h
    go_enter Try.func3, Try.ntmps3
    go_wp2_with fail
    refine Calls.mono C.out ?_
    rintro r w1 ⟨rfl, rfl⟩
    go_wp2_with fail
    refine Calls.mono AW.out ?_
    rintro r w2 ⟨rfl, K2⟩
    replace K2 := Lib.hid K2
    go_wp2_with fail
    go_ret
    exact ⟨rfl, K2.out⟩
set_option maxRecDepth 100000 in
theorem lifted (os : Os) (started : os.Started) (H : Type) (enc : TypeId × Value → H) :
    ReturnsInHanded {} Try.checked os 3 .any (Rows.budgetDeepSpec.pre6 enc Try.prog Try.f3 Rows.budgetDeepRow.domain false) (Rows.budgetDeepSpec.post enc Try.prog Try.f3 false true false false) := by
  refine returnsInHanded_of_change (C := Try.checked) Head.own started (by kernel_rfl) Try.func3
    (ChangeSpec.witness6 (enc := enc) (C := Try.checked) false ⟨#[], #[.int .i64 0, .int .i64 0, .int .i64 0], []⟩ 8 (by kernel_rfl) (by kernel_rfl) (by kernel_rfl) (by kernel_rfl)) ?_
  intro W base args ds gs before hval0 hW hcnd _
  have hval : ∀ (j : Nat) t v, Try.f3.params[j]? = some t → args[j]? = some v → Value.okWide Try.prog W .any base t v := hval0
  have hW' := hW
  obtain ⟨p, q, hA0, hV, rfl, hfz, hnd⟩ := hW
  have hA : DataW.TrodAll enc Try.prog W 0 (fun _ => true) true Try.f3.params.toList args.toList ds p := hA0
  rw [Try.params3] at hA hval
  obtain ⟨v0, vs0, d0, ds0, p0, q0, hargs, rfl, rfl, h0, r0⟩ := trodAll_cons hA
  obtain ⟨v1, vs1, d1, ds1, p1, q1, rfl, rfl, rfl, h1, r1⟩ := trodAll_cons r0
  obtain ⟨v2, vs2, d2, ds2, p2, q2, rfl, rfl, rfl, h2, r2⟩ := trodAll_cons r1
  obtain ⟨rfl, rfl, rfl⟩ := trodAll_nil r2
  obtain rfl : args = #[v0, v1, v2] := by cases args; simp_all
  obtain ⟨rfl, rfl⟩ := trodVars_none hV
  have k0 := h0
  have lt0 : ∀ x ∈ p0, x.block < W.heap.size := by obtain ⟨m, hm⟩ := k0; exact DataW.trod_lt m _ _ _ hm
  obtain ⟨a0, rfl, rfl, rfl, w0⟩ := open_int Try.underlying3 (hval 0 3 v0 rfl rfl) h0
  have k1 := h1
  have lt1 : ∀ x ∈ p1, x.block < W.heap.size := by obtain ⟨m, hm⟩ := k1; exact DataW.trod_lt m _ _ _ hm
  obtain ⟨a1, rfl, rfl, rfl, w1⟩ := open_int Try.underlying3 (hval 1 3 v1 rfl rfl) h1
  have k2 := h2
  have lt2 : ∀ x ∈ p2, x.block < W.heap.size := by obtain ⟨m, hm⟩ := k2; exact DataW.trod_lt m _ _ _ hm
  obtain ⟨a2, rfl, rfl, rfl, w2⟩ := open_int Try.underlying3 (hval 2 3 v2 rfl rfl) h2
  clear hA0 hval0
  refine (walk a0 a1 a2 W w0 w1 w2).mono fun e W' ⟨he, kp⟩ => ?_
  subst he
  have bel := kp.below
  exact ⟨_, rfl, _, _, _, [], _, [], hW', trodAll_mk1 (shut_bool Try.underlying4 _), (trodAll_cons_mk (shut_int Try.underlying3 w0) (trodAll_cons_mk (shut_int Try.underlying3 w1) (trodAll_cons_mk (shut_int Try.underlying3 w2) trodAll_mk0))), rfl, bel.frame _, fun h => by cases h⟩
theorem closed : joinedFacts Try.prog 3 Try.f3 Rows.budgetDeepSpec Rows.budgetDeepRow = true := by
  unfold joinedFacts
  rw [Head.mayEnter, Head.liftsFinal, Head.make]
  kernel_rfl
theorem over : Rows.budgetDeepRow.holds Try.pinned (OpenSpec.ofChange Rows.budgetDeepSpec) :=
  OpenClaim.holds_of_wide 3 Try.f3 rfl rfl rfl rfl rfl rfl rfl ⟨rfl, rfl, rfl, rfl, rfl⟩ rfl rfl rfl rfl rfl (by kernel_rfl) Try.func3 closed
    (of_decide_eq_true (by kernel_rfl)) (by unfold Func.isWrapper; first | (rw [if_pos (by decide +kernel)]; kernel_rfl) | (rw [if_neg (by decide +kernel)]; exact ⟨rfl, rfl⟩))
    (fun os started H enc _ => lifted os started H enc)
theorem proved : Rows.BudgetDeepSaid := over
end Go.Proofs.Ytepmljcapobodaa.budgetDeep

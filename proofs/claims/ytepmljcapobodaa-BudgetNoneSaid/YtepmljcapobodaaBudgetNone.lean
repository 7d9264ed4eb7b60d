/- A budget that is not there, or that nobody made, answers ErrNil, and tells nothing. Condition: none. -/
import Derived.Test.YtepmljcapobodaaBudW
import Derived.Test.YtepmljcapobodaaHead
namespace Go.Proofs.Ytepmljcapobodaa.budgetNone
open Go.ChangeShapes Go.WideShapes Go.ChangeAt Go.RowKit
set_option linter.unusedVariables false
set_option linter.unusedSimpArgs false
set_option maxRecDepth 100000
/-- No budget: nil, or one that nobody made. -/
def NoBud (w : World) (v : Value) : Prop := v = .pointer none ∨ ∃ o, v = .pointer (some ⟨o, 0, none⟩) ∧ w.cell? ⟨o, 0, none⟩ = some (.map none)
theorem NoBud.next {w w' : World} {v : Value} (h : NoBud w v) (k : Keep nob w w') : NoBud w' v := by
  rcases h with h | ⟨o, h, c⟩
  · exact Or.inl h
  · exact Or.inr ⟨o, h, k.some c (fun x => x)⟩
theorem asked_no {w : World} {v : Value} (h : NoBud w v) (id n : Int) : Calls Try.prog 22 #[v, .int .i64 id, .int .i64 n] w fun r w' => r = .returned (.int .i64 1) ∧ w = w' := by
  have mq := mapEq0
  rcases h with rfl | ⟨o, rfl, c⟩
  · go_enter Try.func22, Try.ntmps22
    go_wp2_with fail
    go_ret
    exact ⟨rfl, rfl⟩
  · go_enter Try.func22, Try.ntmps22
    go_wp2_with fail
    go_ret
    exact ⟨rfl, rfl⟩
theorem open_no {w : World} {v : Value} (h : NoBud w v) (id up n : Int) : Calls Try.prog 11 #[v, .int .i64 id, .int .i64 up, .int .i64 n] w fun r w' => r = .returned (.int .i64 1) ∧ w = w' := by
  have A := asked_no h up n
  replace A := Lib.hid A
  replace h := Lib.hid h
  go_enter Try.func11, Try.ntmps11
  go_wp2_with fail
  refine Calls.mono A.out ?_
  rintro r w1 ⟨rfl, rfl⟩
  go_wp2_with fail
  go_ret
  exact ⟨rfl, rfl⟩
theorem close_no {w : World} {v : Value} (h : NoBud w v) (id : Int) : Calls Try.prog 14 #[v, .int .i64 id] w fun r w' => r = .returned (.int .i64 1) ∧ w = w' := by
  have A := asked_no h id 0
  replace A := Lib.hid A
  replace h := Lib.hid h
  go_enter Try.func14, Try.ntmps14
  go_wp2_with fail
  refine Calls.mono A.out ?_
  rintro r w1 ⟨rfl, rfl⟩
  go_wp2_with fail
  go_ret
  exact ⟨rfl, rfl⟩
theorem charge_no {w : World} {v : Value} (h : NoBud w v) (id n : Int) : Calls Try.prog 13 #[v, .int .i64 id, .int .i64 n] w fun r w' => r = .returned (.int .i64 1) ∧ w = w' := by
  have A := asked_no h id n
  replace A := Lib.hid A
  replace h := Lib.hid h
  go_enter Try.func13, Try.ntmps13
  go_wp2_with fail
  refine Calls.mono A.out ?_
  rintro r w1 ⟨rfl, rfl⟩
  go_wp2_with fail
  go_ret
  exact ⟨rfl, rfl⟩
theorem refund_no {w : World} {v : Value} (h : NoBud w v) (id n : Int) : Calls Try.prog 20 #[v, .int .i64 id, .int .i64 n] w fun r w' => r = .returned (.int .i64 1) ∧ w = w' := by
  have A := asked_no h id n
  replace A := Lib.hid A
  replace h := Lib.hid h
  go_enter Try.func20, Try.ntmps20
  go_wp2_with fail
  refine Calls.mono A.out ?_
  rintro r w1 ⟨rfl, rfl⟩
  go_wp2_with fail
  go_ret
  exact ⟨rfl, rfl⟩
theorem left_no {w : World} {v : Value} (h : NoBud w v) (id : Int) : Calls Try.prog 12 #[v, .int .i64 id] w fun r w' => r = .returned (.int .i64 0) ∧ Keep nob w w' := by
  rcases h with rfl | ⟨o, rfl, c⟩
  all_goals
    obtain ⟨p, hp⟩ : ∃ p, p = (w.alloc (.cells #[.pointer none] 22)) := ⟨_, rfl⟩
    clear hp p
  · have K : Keep nob w ((w.alloc (.cells #[.pointer none] 22)).alloc (.cells #[.int .i64 id] 3)) := ((Keep.refl _ _).alloc _).alloc _
    have A := asked_no (w := (w.alloc (.cells #[.pointer none] 22)).alloc (.cells #[.int .i64 id] 3)) (Or.inl rfl) id 0
    have z1 : ((w.alloc (.cells #[.pointer none] 22)).alloc (.cells #[.int .i64 id] 3)).cell? ⟨w.heap.size, 0, none⟩ = some (.pointer none) := by
      rw [alloc_lt (by simp)]
      exact new_at w _ _ 0 _ rfl
    have z2 : ((w.alloc (.cells #[.pointer none] 22)).alloc (.cells #[.int .i64 id] 3)).cell? ⟨w.heap.size + 1, 0, none⟩ = some (.int .i64 id) := by
      have := new_at (w.alloc (.cells #[.pointer none] 22)) #[.int .i64 id] 3 0 _ rfl
      rwa [World.size_alloc] at this
    replace K := Lib.hid K
    replace A := Lib.hid A
    obtain ⟨W, hW⟩ : ∃ W, W = (w.alloc (.cells #[.pointer none] 22)).alloc (.cells #[.int .i64 id] 3) := ⟨_, rfl⟩
    rw [← hW] at K z1 z2 A
    replace hW := Lib.hid hW
    go_enter Try.func12, Try.ntmps12
    go_wp2_with fail
    rw [← hW.out]
    refine Calls.mono A.out ?_
    rintro r w1 ⟨rfl, rfl⟩
    go_wp2_with fail
    go_ret
    exact ⟨rfl, K.out⟩
  · have K : Keep nob w ((w.alloc (.cells #[.pointer (some ⟨o, 0, none⟩)] 22)).alloc (.cells #[.int .i64 id] 3)) := ((Keep.refl _ _).alloc _).alloc _
    have A := asked_no (w := (w.alloc (.cells #[.pointer (some ⟨o, 0, none⟩)] 22)).alloc (.cells #[.int .i64 id] 3)) (Or.inr ⟨o, rfl, K.some c (fun x => x)⟩) id 0
    have z1 : ((w.alloc (.cells #[.pointer (some ⟨o, 0, none⟩)] 22)).alloc (.cells #[.int .i64 id] 3)).cell? ⟨w.heap.size, 0, none⟩ = some (.pointer (some ⟨o, 0, none⟩)) := by
      rw [alloc_lt (by simp)]
      exact new_at w _ _ 0 _ rfl
    have z2 : ((w.alloc (.cells #[.pointer (some ⟨o, 0, none⟩)] 22)).alloc (.cells #[.int .i64 id] 3)).cell? ⟨w.heap.size + 1, 0, none⟩ = some (.int .i64 id) := by
      have := new_at (w.alloc (.cells #[.pointer (some ⟨o, 0, none⟩)] 22)) #[.int .i64 id] 3 0 _ rfl
      rwa [World.size_alloc] at this
    replace K := Lib.hid K
    replace A := Lib.hid A
    obtain ⟨W, hW⟩ : ∃ W, W = (w.alloc (.cells #[.pointer (some ⟨o, 0, none⟩)] 22)).alloc (.cells #[.int .i64 id] 3) := ⟨_, rfl⟩
    rw [← hW] at K z1 z2 A
    replace hW := Lib.hid hW
    go_enter Try.func12, Try.ntmps12
    go_wp2_with fail
    rw [← hW.out]
    refine Calls.mono A.out ?_
    rintro r w1 ⟨rfl, rfl⟩
    go_wp2_with fail
    go_ret
    exact ⟨rfl, K.out⟩
def InvZ (w : World) (out i : Value) (wr : World) : Prop := out = .slice none 0 0 ∧ i = .int .i64 0 ∧ Keep nob w wr
theorem all_no {w : World} {v : Value} (h : NoBud w v) : Calls Try.prog 15 #[v] w fun r w' => r = .returned (.slice none 0 0) ∧ Keep nob w w' := by
  rcases h with rfl | ⟨o, rfl, c⟩
  · go_enter Try.func15, Try.ntmps15
    go_wp2_with fail
    go_ret
    exact ⟨rfl, Keep.refl _ _⟩
  · have KY := keysU none w
    have ST := sortedU_nil w
    have K0 : Keep nob w (w.alloc (.cells #[.map none] 47)) := (Keep.refl _ _).alloc _
    replace KY := Lib.hid KY
    replace ST := Lib.hid ST
    replace K0 := Lib.hid K0
    go_enter Try.func15, Try.ntmps15
    go_wp2_with fail
    refine Calls.mono KY.out ?_
    rintro r w1 ⟨rfl, rfl⟩
    go_wp2_with fail
    refine Calls.mono ST.out ?_
    rintro r w2 ⟨rfl, K2⟩
    have KA := K0.out.then K2
    replace K2 := Lib.hid K2
    replace KA := Lib.hid KA
    go_wp2_with fail
    go_loopw [3, 15] (fun out i wr => InvZ w out i wr) (fun _ i _ => (1 - intOf i).toNat)
    case atStart => exact ⟨rfl, rfl, KA.out⟩
    case round =>
      obtain ⟨rfl, rfl, A⟩ := hrel
      replace A := Lib.hid A
      go_wp2_with fail
      go_ret
      exact ⟨rfl, A.out⟩
def InvN (w : World) (o : Nat) (x i : Value) (wr : World) : Prop :=
  ∃ k : Nat, i = .int .i64 k ∧ k ≤ 2 ∧ NoBud wr x ∧ wr.cell? ⟨o, 0, none⟩ = some (.map none) ∧ Keep nob w wr
set_option maxHeartbeats 1600000 in
theorem walk (a b n : Int) (w : World) (w0 : (Lit.int .i64 a).wf = true) (w1 : (Lit.int .i64 b).wf = true) (w2 : (Lit.int .i64 n).wf = true) :
    Calls Try.prog 6 #[.int .i64 a, .int .i64 b, .int .i64 n] w fun e w' => e = .returned (.bool true) ∧ Keep nob w w' := by
  have K0 : Keep nob w (w.alloc (.cells #[.map none] 49)) := (Keep.refl _ _).alloc _
  have c0 := new_at w #[.map none] 49 0 _ rfl
  obtain ⟨W, hW⟩ : ∃ W, W = w.alloc (.cells #[.map none] 49) := ⟨_, rfl⟩
  obtain ⟨o, ho⟩ : ∃ o, o = w.heap.size := ⟨_, rfl⟩
  rw [← hW] at K0 c0
  rw [← ho] at c0
  replace K0 := Lib.hid K0
  replace c0 := Lib.hid c0
  replace hW := Lib.hid hW
  replace ho := Lib.hid ho
  go_enter Try.func6, Try.ntmps6
  go_wp2_with fail
  rw [← hW.out, ← ho.out]
  go_loopw [7, 9] (fun x i wr => InvN w o x i wr) (fun _ i _ => (2 - intOf i).toNat)
  case atStart => exact ⟨0, rfl, by omega, Or.inl rfl, c0.out, K0.out⟩
  case round =>
    obtain ⟨k, rfl, hk, N, cz, K⟩ := hrel
    have body : ∀ (x : Value), NoBud wr x → (Hid (∀ W', Keep nob wr W' → NoBud W' x)) := fun x h => Lib.hid (fun W' k => h.next k)
    by_cases hlt : k < 2
    · have t0 : decide (k < 2) = true := by simpa using hlt
      have t0' : decide ((k : Int) < 2) = true := by simp; omega
      by_cases h1 : k = 1
      · subst h1
        have NX := body (.pointer (some ⟨o, 0, none⟩)) (Or.inr ⟨o, rfl, cz⟩)
        have C1 := open_no (NX.out wr (Keep.refl _ _)) a b n
        have C2 := close_no (NX.out wr (Keep.refl _ _)) a
        have C3 := charge_no (NX.out wr (Keep.refl _ _)) a n
        have C4 := refund_no (NX.out wr (Keep.refl _ _)) a n
        have C5 := left_no (NX.out wr (Keep.refl _ _)) a
        clear body N
        replace K := Lib.hid K
        replace cz := Lib.hid cz
        replace C1 := Lib.hid C1
        replace C2 := Lib.hid C2
        replace C3 := Lib.hid C3
        replace C4 := Lib.hid C4
        replace C5 := Lib.hid C5
        go_wp2_with fail
        refine Calls.mono C1.out ?_
        rintro r w5 ⟨rfl, rfl⟩
        go_wp2_with fail
        refine Calls.mono C2.out ?_
        rintro r w5 ⟨rfl, rfl⟩
        go_wp2_with fail
        refine Calls.mono C3.out ?_
        rintro r w5 ⟨rfl, rfl⟩
        go_wp2_with fail
        refine Calls.mono C4.out ?_
        rintro r w5 ⟨rfl, rfl⟩
        go_wp2_with fail
        refine Calls.mono C5.out ?_
        rintro r w6 ⟨rfl, K6⟩
        have C6 := all_no (NX.out w6 K6)
        replace C6 := Lib.hid C6
        replace K6 := Lib.hid K6
        go_wp2_with fail
        refine Calls.mono C6.out ?_
        rintro r w7 ⟨rfl, K7⟩
        have K8 := K6.out.then K7
        replace K7 := Lib.hid K7
        replace K8 := Lib.hid K8
        go_wp2_with fail
        go_roundw
        case rel => exact ⟨2, by go_num, by omega, NX.out _ K8.out, K8.out.some cz.out (fun x => x), K.out.then K8.out⟩
        case measure => simp [intOf]
      · obtain rfl : k = 0 := by omega
        have NX := body u7 N
        have C1 := open_no (NX.out wr (Keep.refl _ _)) a b n
        have C2 := close_no (NX.out wr (Keep.refl _ _)) a
        have C3 := charge_no (NX.out wr (Keep.refl _ _)) a n
        have C4 := refund_no (NX.out wr (Keep.refl _ _)) a n
        have C5 := left_no (NX.out wr (Keep.refl _ _)) a
        clear body N
        replace K := Lib.hid K
        replace cz := Lib.hid cz
        replace C1 := Lib.hid C1
        replace C2 := Lib.hid C2
        replace C3 := Lib.hid C3
        replace C4 := Lib.hid C4
        replace C5 := Lib.hid C5
        go_wp2_with fail
        refine Calls.mono C1.out ?_
        rintro r w5 ⟨rfl, rfl⟩
        go_wp2_with fail
        refine Calls.mono C2.out ?_
        rintro r w5 ⟨rfl, rfl⟩
        go_wp2_with fail
        refine Calls.mono C3.out ?_
        rintro r w5 ⟨rfl, rfl⟩
        go_wp2_with fail
        refine Calls.mono C4.out ?_
        rintro r w5 ⟨rfl, rfl⟩
        go_wp2_with fail
        refine Calls.mono C5.out ?_
        rintro r w6 ⟨rfl, K6⟩
        have C6 := all_no (NX.out w6 K6)
        replace C6 := Lib.hid C6
        replace K6 := Lib.hid K6
        go_wp2_with fail
        refine Calls.mono C6.out ?_
        rintro r w7 ⟨rfl, K7⟩
        have K8 := K6.out.then K7
        replace K7 := Lib.hid K7
        replace K8 := Lib.hid K8
        go_wp2_with fail
        go_roundw
        case rel => exact ⟨1, by go_num, by omega, NX.out _ K8.out, K8.out.some cz.out (fun x => x), K.out.then K8.out⟩
        case measure => simp [intOf]
    · obtain rfl : k = 2 := by omega
      have AW := awake11 wr
      clear body N
      replace K := Lib.hid K
      replace cz := Lib.hid cz
      replace AW := Lib.hid AW
      go_wp2_with fail
      refine Calls.mono AW.out ?_
      rintro r w8 ⟨rfl, K8⟩
      replace K8 := Lib.hid K8
      go_wp2_with fail
      go_ret
      exact ⟨rfl, K.out.then K8.out⟩
set_option maxRecDepth 100000 in
theorem lifted (os : Os) (started : os.Started) (H : Type) (enc : TypeId × Value → H) :
    ReturnsInHanded {} Try.checked os 6 .any (Rows.budgetNoneSpec.pre6 enc Try.prog Try.f6 Rows.budgetNoneRow.domain false) (Rows.budgetNoneSpec.post enc Try.prog Try.f6 false true false false) := by
  refine returnsInHanded_of_change (C := Try.checked) Head.own started (by kernel_rfl) Try.func6
    (ChangeSpec.witness6 (enc := enc) (C := Try.checked) false ⟨#[], #[.int .i64 0, .int .i64 0, .int .i64 0], []⟩ 8 (by kernel_rfl) (by kernel_rfl) (by kernel_rfl) (by kernel_rfl)) ?_
  intro W base args ds gs before hval0 hW hcnd _
  have hval : ∀ (j : Nat) t v, Try.f6.params[j]? = some t → args[j]? = some v → Value.okWide Try.prog W .any base t v := hval0
  have hW' := hW
  obtain ⟨p, q, hA0, hV, rfl, hfz, hnd⟩ := hW
  have hA : DataW.TrodAll enc Try.prog W 0 (fun _ => true) true Try.f6.params.toList args.toList ds p := hA0
  rw [Try.params6] at hA hval
  obtain ⟨v0, vs0, d0, ds0, p0, q0, hargs, rfl, rfl, h0, r0⟩ := trodAll_cons hA
  obtain ⟨v1, vs1, d1, ds1, p1, q1, rfl, rfl, rfl, h1, r1⟩ := trodAll_cons r0
  obtain ⟨v2, vs2, d2, ds2, p2, q2, rfl, rfl, rfl, h2, r2⟩ := trodAll_cons r1
  obtain ⟨rfl, rfl, rfl⟩ := trodAll_nil r2
  obtain rfl : args = #[v0, v1, v2] := by cases args; simp_all
  obtain ⟨rfl, rfl⟩ := trodVars_none hV
  have k0 := h0
  have lt0 : ∀ x ∈ p0, x.block < W.heap.size := by obtain ⟨m, hm⟩ := k0; exact DataW.trod_lt m _ _ _ hm
  obtain ⟨a0, rfl, rfl, rfl, w0⟩ := open_int Try.underlying3 (hval 0 3 v0 rfl rfl) h0
  have k1 := h1
  have lt1 : ∀ x ∈ p1, x.block < W.heap.size := by obtain ⟨m, hm⟩ := k1; exact DataW.trod_lt m _ _ _ hm
  obtain ⟨a1, rfl, rfl, rfl, w1⟩ := open_int Try.underlying3 (hval 1 3 v1 rfl rfl) h1
  have k2 := h2
  have lt2 : ∀ x ∈ p2, x.block < W.heap.size := by obtain ⟨m, hm⟩ := k2; exact DataW.trod_lt m _ _ _ hm
  obtain ⟨a2, rfl, rfl, rfl, w2⟩ := open_int Try.underlying3 (hval 2 3 v2 rfl rfl) h2
  clear hA0 hval0
  refine (walk a0 a1 a2 W w0 w1 w2).mono fun e W' ⟨he, kp⟩ => ?_
  subst he
  have bel := kp.below
  exact ⟨_, rfl, _, _, _, [], _, [], hW', trodAll_mk1 (shut_bool Try.underlying4 _), (trodAll_cons_mk (shut_int Try.underlying3 w0) (trodAll_cons_mk (shut_int Try.underlying3 w1) (trodAll_cons_mk (shut_int Try.underlying3 w2) trodAll_mk0))), rfl, bel.frame _, fun h => by cases h⟩
theorem closed : joinedFacts Try.prog 6 Try.f6 Rows.budgetNoneSpec Rows.budgetNoneRow = true := by
  unfold joinedFacts
  rw [Head.mayEnter, Head.liftsFinal, Head.make]
  kernel_rfl
theorem over : Rows.budgetNoneRow.holds Try.pinned (OpenSpec.ofChange Rows.budgetNoneSpec) :=
  OpenClaim.holds_of_wide 6 Try.f6 rfl rfl rfl rfl rfl rfl rfl ⟨rfl, rfl, rfl, rfl, rfl⟩ rfl rfl rfl rfl rfl (by kernel_rfl) Try.func6 closed
    (of_decide_eq_true (by kernel_rfl)) (by unfold Func.isWrapper; first | (rw [if_pos (by decide +kernel)]; kernel_rfl) | (rw [if_neg (by decide +kernel)]; exact ⟨rfl, rfl⟩))
    (fun os started H enc _ => lifted os started H enc)
theorem proved : Rows.BudgetNoneSaid := over
end Go.Proofs.Ytepmljcapobodaa.budgetNone

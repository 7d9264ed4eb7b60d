/- Of the words of a frame the frame is made, of words that are taken the same words; without a memory nothing is saved. Condition: none. -/
import Derived.Test.YtkkkmaigcnpmeaaTrapV
import Derived.Deep.RegionHeld3
namespace Go.Proofs.Ytkkkmaigcnpmeaa.trapBack
open Go.ChangeShapes Go.WideShapes Go.ChangeAt Go.RowKit
set_option linter.unusedVariables false
set_option maxRecDepth 100000
theorem of_t {v : Value} {t : Trap} {w : World} (h : WordsC w v t.list) :
    Calls Try.prog 51 #[v] w fun r w' => r = .returned (.tuple #[.agg t.cells, .int .i64 0]) ∧ Keep nob w w' := by
  have := of_ok v t.list w h
  rw [ofT_list, ofE_list] at this
  exact this
set_option maxHeartbeats 1600000 in
theorem walk_in (t : Trap) (v : Value) (l : List Int) (i s : Int) (w : World) (L : WordsArg w v l) :
    Calls Try.prog 19 #[.agg t.cells, v, .int .i64 i, .int .i64 s] w fun e w' => e = .returned (.bool true) ∧ Keep nob w w' := by
  have heq := eqTrapS
  have heqz := eqTrapZ
  obtain ⟨X, hX⟩ : ∃ X, X = ofT l := ⟨_, rfl⟩
  obtain ⟨E, hE⟩ : ∃ E, E = ofE l := ⟨_, rfl⟩
  have OL := Lib.hid (fun W (k : Keep nob w W) => of_ok v l W (L.1.next k))
  rw [← hX, ← hE] at OL
  obtain ⟨TE, tE⟩ : ∃ TE, (E != 0) = TE := ⟨_, rfl⟩
  have HS : Hid (TE = false → X.list = l ∧ l.length = 10) := Lib.hid (fun h => by
    subst tE
    have : E = 0 := by simpa using h
    rw [hE] at this
    unfold ofE at this
    by_cases hl : l.length = 10
    · exact ⟨by rw [hX]; exact list_of_trap l hl, hl⟩
    · rw [if_neg hl] at this; cases this)
  have WX := Lib.hid (fun W1 => words_ok X W1)
  have LV := Lib.hid (fun W (k : Keep nob w W) => (L.1.next k).words)
  clear hX hE L
  go_enter Try.func19, Try.ntmps19
  have T0 := TrapIn.new w t 76
  have A0 : Keep nob w (w.alloc (.cells t.cells 76)) := (Keep.refl _ _).alloc _
  have T4 := Lib.hid T0
  clear T0
  go_wp2_with (refine wpList_load_trap (.tmp 4) _ _ _ T4.out rfl rfl rfl ?_)
  refine Calls.mono (words_ok t _) ?_
  rintro r w1 ⟨v1, rfl, R1, K1⟩
  have A1 := A0.then K1
  replace T4 := Lib.hid (T4.out.next K1)
  clear K1 A0
  have R1 := Lib.hid R1
  have A1 := Lib.hid A1
  go_wp2_with fail
  refine Calls.mono (of_t R1.out.wordsC) ?_
  rintro r w2 ⟨rfl, K2⟩
  have A2 := Lib.hid (A1.out.then K2)
  replace T4 := Lib.hid (T4.out.next K2)
  clear K2 A1 R1
  go_wp2_with (refine wpList_store_trap (.tmp 9) (.tmp 19) t Trap.zero rfl rfl rfl rfl ?_)
  refine Calls.mono (OL.out _ (A2.out.alloc _)) ?_
  rintro r w3 ⟨rfl, K3⟩
  have T9 := Lib.hid ((TrapIn.new w2 t 76).next K3)
  have A3 := Lib.hid ((A2.out.alloc _).then K3)
  replace T4 := Lib.hid ((T4.out.next ((Keep.refl _ _).alloc _)).next K3)
  clear K3 A2 OL
  go_wp2_with (refine wpList_store_trap (.tmp 11) (.tmp 24) X Trap.zero rfl rfl rfl rfl ?_)
  refine Calls.mono (load_none (Or.inl rfl) i s) ?_
  rintro r w4 ⟨rfl, K4⟩
  have T11 := Lib.hid ((TrapIn.new w3 X 76).next K4)
  have KK := ((Keep.refl nob _).alloc _).then K4
  have A4 := Lib.hid (A3.out.then KK)
  replace T4 := Lib.hid (T4.out.next KK)
  replace T9 := Lib.hid (T9.out.next KK)
  have T13 := Lib.hid (TrapIn.new w4 Trap.zero 76)
  have KK4 := (Keep.refl nob w4).alloc (.cells Trap.zero.cells 76)
  replace T4 := Lib.hid (T4.out.next KK4)
  replace T9 := Lib.hid (T9.out.next KK4)
  replace T11 := Lib.hid (T11.out.next KK4)
  have A5 := Lib.hid (A4.out.then KK4)
  clear K4 KK A3 KK4
  go_upto_region 4 with (refine wpList_store_trap (.tmp 13) (.tmp 30) Trap.zero Trap.zero rfl rfl rfl rfl ?_)
  obtain ⟨W, hW⟩ : ∃ W, W = w4.alloc (.cells Trap.zero.cells 76) := ⟨_, rfl⟩
  rw [← hW] at T4 T9 T11 T13 A5 ⊢
  clear hW A4
  by_cases hE : TE = false
  · obtain ⟨e1, e2⟩ := HS.out hE
    have WX2 : Hid (∀ W1, Calls Try.prog 53 #[.agg X.cells] W1 fun r w' => ∃ v, r = .returned v ∧ RowIs W1.heap.size w' v 10 l ∧ Keep nob W1 w') := by rw [← e1]; exact WX
    have SM := Lib.hid (fun w1 v1 (h1 : WordsAt w1 v1 l) (h2 : WordsAt w1 v l) => same_ok h1 h2 (by rw [e2]; decide))
    simp only [decide_true] at SM
    clear e1 e2 WX
    go_wp2_with (first | (refine wpList_load_trap (.tmp 9) _ _ _ T9.out rfl rfl rfl ?_) | (refine wpList_load_trap (.tmp 4) _ _ _ T4.out rfl rfl rfl ?_) | (refine wpList_load_trap (.tmp 11) _ _ _ T11.out rfl rfl rfl ?_))
    refine Calls.mono (WX2.out _) ?_
    rintro r w5 ⟨v5, rfl, R5, K5⟩
    have A6 := A5.out.then K5
    replace T13 := Lib.hid (T13.out.next K5)
    replace T4 := Lib.hid (T4.out.next K5)
    have R5 := Lib.hid R5.words
    have LV5 := Lib.hid (LV.out _ A6)
    have A6 := Lib.hid A6
    clear A5 K5 T9 T11
    go_wp2_with fail
    refine Calls.mono (SM.out _ _ R5.out LV5.out) ?_
    rintro r w6 ⟨rfl, K6⟩
    have A7 := Lib.hid (A6.out.then K6)
    replace T13 := Lib.hid (T13.out.next K6)
    replace T4 := Lib.hid (T4.out.next K6)
    clear A6 K6 LV5 R5
    go_wp2_with (first | (refine wpList_load_trap (.tmp 13) _ _ _ T13.out rfl rfl rfl ?_) | (refine wpList_load_trap (.tmp 4) _ _ _ T4.out rfl rfl rfl ?_))
    refine Calls.mono (save_none (Or.inl rfl) i s t) ?_
    rintro r w8 ⟨rfl, K8⟩
    have A8 := Lib.hid (A7.out.then K8)
    clear A7 K8
    go_wp2_with fail
    refine Calls.mono (awake04 _) ?_
    rintro r w9 ⟨rfl, K9⟩
    go_wp2_with fail
    go_ret
    exact ⟨rfl, A8.out.then K9⟩
  · obtain rfl : TE = true := by cases TE with
      | true => rfl
      | false => exact absurd rfl hE
    clear hE HS WX
    go_wp2_with (first | (refine wpList_load_trap (.tmp 9) _ _ _ T9.out rfl rfl rfl ?_) | (refine wpList_load_trap (.tmp 4) _ _ _ T4.out rfl rfl rfl ?_) | (refine wpList_load_trap (.tmp 13) _ _ _ T13.out rfl rfl rfl ?_))
    refine Calls.mono (save_none (Or.inl rfl) i s t) ?_
    rintro r w8 ⟨rfl, K8⟩
    have A8 := Lib.hid (A5.out.then K8)
    clear A5 K8
    go_wp2_with fail
    refine Calls.mono (awake04 _) ?_
    rintro r w9 ⟨rfl, K9⟩
    go_wp2_with fail
    go_ret
    exact ⟨rfl, A8.out.then K9⟩
theorem walk (v0 : Value) (t : Trap) (v : Value) (l : List Int) (i s : Int) (w : World) (w0 : TrapIs v0 t) (w1 : WordsArg w v l) (w2 : (Lit.int .i64 i).wf = true) (w3 : (Lit.int .i64 s).wf = true) :
    Calls Try.prog 19 #[v0, v, .int .i64 i, .int .i64 s] w fun e w' => e = .returned (.bool true) ∧ Keep nob w w' := by
  obtain ⟨rfl, _⟩ := w0
  exact walk_in t v l i s w w1
set_option maxRecDepth 100000 in
theorem lifted (os : Os) (started : os.Started) (H : Type) (enc : TypeId × Value → H) :
    ReturnsInHanded {} Try.checked os 19 .any (Rows.trapBackSpec.pre6 enc Try.prog Try.f19 Rows.trapBackRow.domain false) (Rows.trapBackSpec.post enc Try.prog Try.f19 false true false false) := by
  refine returnsInHanded_of_change (C := Try.checked) Head.own started (by kernel_rfl) Try.func19
    (ChangeSpec.witness6 (enc := enc) (C := Try.checked) false ⟨#[], #[(.agg #[.int .u32 0, .int .u32 0, .int .u32 0, .int .u32 0, .int .u32 0, .int .u32 0, .int .u32 0, .int .u32 0, .int .u32 0, .int .u32 0]), .slice none 0 0, .int .i64 0, .int .i64 0], []⟩ 8 (by kernel_rfl) (by kernel_rfl) (by kernel_rfl) (by kernel_rfl)) ?_
  intro W base args ds gs before hval0 hW hcnd _
  have hval : ∀ (j : Nat) t v, Try.f19.params[j]? = some t → args[j]? = some v → Value.okWide Try.prog W .any base t v := hval0
  have hW' := hW
  obtain ⟨p, q, hA0, hV, rfl, hfz, hnd⟩ := hW
  have hA : DataW.TrodAll enc Try.prog W 0 (fun _ => true) true Try.f19.params.toList args.toList ds p := hA0
  rw [Try.params19] at hA hval
  obtain ⟨v0, vs0, d0, ds0, p0, q0, hargs, rfl, rfl, h0, r0⟩ := trodAll_cons hA
  obtain ⟨v1, vs1, d1, ds1, p1, q1, rfl, rfl, rfl, h1, r1⟩ := trodAll_cons r0
  obtain ⟨v2, vs2, d2, ds2, p2, q2, rfl, rfl, rfl, h2, r2⟩ := trodAll_cons r1
  obtain ⟨v3, vs3, d3, ds3, p3, q3, rfl, rfl, rfl, h3, r3⟩ := trodAll_cons r2
  obtain ⟨rfl, rfl, rfl⟩ := trodAll_nil r3
  obtain rfl : args = #[v0, v1, v2, v3] := by cases args; simp_all
  obtain ⟨rfl, rfl⟩ := trodVars_none hV
  have k0 := h0
  have lt0 : ∀ x ∈ p0, x.block < W.heap.size := by obtain ⟨m, hm⟩ := k0; exact DataW.trod_lt m _ _ _ hm
  obtain ⟨a0, w0⟩ := open_trap (hval 0 76 v0 rfl rfl) h0
  have k1 := h1
  have lt1 : ∀ x ∈ p1, x.block < W.heap.size := by obtain ⟨m, hm⟩ := k1; exact DataW.trod_lt m _ _ _ hm
  obtain ⟨a1, w1⟩ := open_words (hval 1 37 v1 rfl rfl) h1
  have k2 := h2
  have lt2 : ∀ x ∈ p2, x.block < W.heap.size := by obtain ⟨m, hm⟩ := k2; exact DataW.trod_lt m _ _ _ hm
  obtain ⟨a2, rfl, rfl, rfl, w2⟩ := open_int Try.underlying3 (hval 2 3 v2 rfl rfl) h2
  have k3 := h3
  have lt3 : ∀ x ∈ p3, x.block < W.heap.size := by obtain ⟨m, hm⟩ := k3; exact DataW.trod_lt m _ _ _ hm
  obtain ⟨a3, rfl, rfl, rfl, w3⟩ := open_int Try.underlying3 (hval 3 3 v3 rfl rfl) h3
  clear hA0 hval0
  refine (walk v0 a0 v1 a1 a2 a3 W w0 w1 w2 w3).mono fun e W' ⟨he, kp⟩ => ?_
  subst he
  have bel := kp.below
  exact ⟨_, rfl, _, _, _, [], _, [], hW', trodAll_mk1 (shut_bool Try.underlying4 _), (trodAll_cons_mk (Below.trod Head.laidOut (by kernel_rfl) (of_decide_eq_true (by kernel_rfl)) k0 bel lt0) (trodAll_cons_mk (Below.trod Head.laidOut (by kernel_rfl) (of_decide_eq_true (by kernel_rfl)) k1 bel lt1) (trodAll_cons_mk (shut_int Try.underlying3 w2) (trodAll_cons_mk (shut_int Try.underlying3 w3) trodAll_mk0)))), rfl, bel.frame _, fun h => by cases h⟩
theorem closed : joinedFacts Try.prog 19 Try.f19 Rows.trapBackSpec Rows.trapBackRow = true := by
  unfold joinedFacts
  rw [Head.mayEnter, Head.liftsFinal, Head.make]
  kernel_rfl
theorem over : Rows.trapBackRow.holds Try.pinned (OpenSpec.ofChange Rows.trapBackSpec) :=
  OpenClaim.holds_of_wide 19 Try.f19 rfl rfl rfl rfl rfl rfl rfl ⟨rfl, rfl, rfl, rfl, rfl⟩ rfl rfl rfl rfl rfl (by kernel_rfl) Try.func19 closed
    (of_decide_eq_true (by kernel_rfl)) (by unfold Func.isWrapper; first | (rw [if_pos (by decide +kernel)]; kernel_rfl) | (rw [if_neg (by decide +kernel)]; exact ⟨rfl, rfl⟩))
    (fun os started H enc _ => lifted os started H enc)
theorem proved : Rows.TrapBackSaid := over
end Go.Proofs.Ytkkkmaigcnpmeaa.trapBack

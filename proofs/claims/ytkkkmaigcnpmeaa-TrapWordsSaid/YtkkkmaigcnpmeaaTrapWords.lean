/- The words of any frame, and what any words are of, are the document's, or refused. Condition: at most 100 words. -/
import Derived.Test.YtkkkmaigcnpmeaaTrapEq
import Derived.Test.YtkkkmaigcnpmeaaHead
import Derived.Deep.RegionHeld3
namespace Go.Proofs.Ytkkkmaigcnpmeaa.trapWords
open Go.ChangeShapes Go.WideShapes Go.ChangeAt Go.RowKit
set_option linter.unusedVariables false
set_option maxRecDepth 100000
set_option maxHeartbeats 1600000 in
theorem walk_in (t : Trap) (v : Value) (l : List Int) (w : World) (hl : l.length ≤ 100) (L : WordsArg w v l) :
    Calls Try.prog 17 #[t.val, v] w fun e w' => e = .returned (.bool true) ∧ Keep nob w w' := by
  obtain ⟨L, hm, hr⟩ := L
  have t1 : decide ((100 : Int) < l.length) = false := by simp; omega
  have OF := Lib.hid (fun w1 (h : WordsC w1 v l) => of_ok v _ w1 h)
  have RF := Lib.hid (fun w1 (h : WordsAt w1 v l) => refof_ok v _ w1 h)
  have WK := Lib.hid (fun W1 => words_ok t W1)
  have RK := Lib.hid (fun W1 => refwords_ok t W1)
  have tl := t.list_len
  have SM := Lib.hid (fun w1 v1 v2 (h1 : WordsAt w1 v1 t.list) (h2 : WordsAt w1 v2 t.list) => same_ok h1 h2 (by rw [tl]; decide))
  simp only [decide_true] at SM
  have LK := Lib.hid (fun w1 (k : Keep nob w w1) => L.next k)
  obtain ⟨X, hX⟩ : ∃ X, X = ofT l := ⟨_, rfl⟩
  obtain ⟨E, hE⟩ : ∃ E, E = ofE l := ⟨_, rfl⟩
  rw [← hX, ← hE] at OF RF
  obtain ⟨TL, hTL⟩ : ∃ TL, TL = t.list := ⟨_, rfl⟩
  rw [← hTL] at WK RK SM
  clear hX hE tl hTL hm hr
  obtain ⟨a, cap, hv, _⟩ := L
  obtain ⟨x0, x1, x2, x3, x4, x5, x6, x7, x8, x9⟩ := X
  obtain ⟨y0, y1, y2, y3, y4, y5, y6, y7, y8, y9⟩ := t
  unfold Trap.val Trap.cells at *
  rw [hv] at OF RF LK ⊢
  clear hv hl
  go_enter Try.func17, Try.ntmps17
  go_wp2_with fail
  refine Calls.mono (OF.out _ (LK.out _ ((Keep.refl _ _).alloc _))) ?_
  rintro e w1 ⟨rfl, K1⟩
  have A1 := Lib.hid (((Keep.refl nob w).alloc _).then K1)
  go_wp2_with fail
  refine Calls.mono (RF.out _ (LK.out _ (A1.out.alloc _)).words) ?_
  rintro e w2 ⟨rfl, K2⟩
  have A2 := Lib.hid ((A1.out.alloc _).then K2)
  have c0 := ((K1.alloc _).then K2).some (p := ⟨w.heap.size, 0, none⟩) (v := .int .u32 y0) (new_at _ _ _ 0 _ rfl) (fun x => x)
  have c1 := ((K1.alloc _).then K2).some (p := ⟨w.heap.size, 1, none⟩) (v := .int .u32 y1) (new_at _ _ _ 1 _ rfl) (fun x => x)
  have c2 := ((K1.alloc _).then K2).some (p := ⟨w.heap.size, 2, none⟩) (v := .int .u32 y2) (new_at _ _ _ 2 _ rfl) (fun x => x)
  have c3 := ((K1.alloc _).then K2).some (p := ⟨w.heap.size, 3, none⟩) (v := .int .u32 y3) (new_at _ _ _ 3 _ rfl) (fun x => x)
  have c4 := ((K1.alloc _).then K2).some (p := ⟨w.heap.size, 4, none⟩) (v := .int .u32 y4) (new_at _ _ _ 4 _ rfl) (fun x => x)
  have c5 := ((K1.alloc _).then K2).some (p := ⟨w.heap.size, 5, none⟩) (v := .int .u32 y5) (new_at _ _ _ 5 _ rfl) (fun x => x)
  have c6 := ((K1.alloc _).then K2).some (p := ⟨w.heap.size, 6, none⟩) (v := .int .u32 y6) (new_at _ _ _ 6 _ rfl) (fun x => x)
  have c7 := ((K1.alloc _).then K2).some (p := ⟨w.heap.size, 7, none⟩) (v := .int .u32 y7) (new_at _ _ _ 7 _ rfl) (fun x => x)
  have c8 := ((K1.alloc _).then K2).some (p := ⟨w.heap.size, 8, none⟩) (v := .int .u32 y8) (new_at _ _ _ 8 _ rfl) (fun x => x)
  have c9 := ((K1.alloc _).then K2).some (p := ⟨w.heap.size, 9, none⟩) (v := .int .u32 y9) (new_at _ _ _ 9 _ rfl) (fun x => x)
  have d0 := K2.some (p := ⟨w1.heap.size, 0, none⟩) (v := .int .u32 x0) (new_at _ _ _ 0 _ rfl) (fun x => x)
  have d1 := K2.some (p := ⟨w1.heap.size, 1, none⟩) (v := .int .u32 x1) (new_at _ _ _ 1 _ rfl) (fun x => x)
  have d2 := K2.some (p := ⟨w1.heap.size, 2, none⟩) (v := .int .u32 x2) (new_at _ _ _ 2 _ rfl) (fun x => x)
  have d3 := K2.some (p := ⟨w1.heap.size, 3, none⟩) (v := .int .u32 x3) (new_at _ _ _ 3 _ rfl) (fun x => x)
  have d4 := K2.some (p := ⟨w1.heap.size, 4, none⟩) (v := .int .u32 x4) (new_at _ _ _ 4 _ rfl) (fun x => x)
  have d5 := K2.some (p := ⟨w1.heap.size, 5, none⟩) (v := .int .u32 x5) (new_at _ _ _ 5 _ rfl) (fun x => x)
  have d6 := K2.some (p := ⟨w1.heap.size, 6, none⟩) (v := .int .u32 x6) (new_at _ _ _ 6 _ rfl) (fun x => x)
  have d7 := K2.some (p := ⟨w1.heap.size, 7, none⟩) (v := .int .u32 x7) (new_at _ _ _ 7 _ rfl) (fun x => x)
  have d8 := K2.some (p := ⟨w1.heap.size, 8, none⟩) (v := .int .u32 x8) (new_at _ _ _ 8 _ rfl) (fun x => x)
  have d9 := K2.some (p := ⟨w1.heap.size, 9, none⟩) (v := .int .u32 x9) (new_at _ _ _ 9 _ rfl) (fun x => x)
  clear K1 K2 OF RF LK
  have hs1 := World.block_lt_of_cell? _ _ c0
  have hs2 := World.block_lt_of_cell? _ _ d0
  go_upto_region 5 with (fail)
  obtain ⟨W, hW⟩ : ∃ W, W = w2.alloc (.cells #[.int .u32 x0, .int .u32 x1, .int .u32 x2, .int .u32 x3, .int .u32 x4, .int .u32 x5, .int .u32 x6, .int .u32 x7, .int .u32 x8, .int .u32 x9] 76) := ⟨_, rfl⟩
  have KW : Keep nob w2 W.drew := by rw [hW]; exact ((Keep.refl _ _).alloc _).drew
  have e0 : W.drew.cell? ⟨w2.heap.size, 0, none⟩ = some (.int .u32 x0) := by rw [hW]; exact new_at _ _ _ 0 _ rfl
  have e1 : W.drew.cell? ⟨w2.heap.size, 1, none⟩ = some (.int .u32 x1) := by rw [hW]; exact new_at _ _ _ 1 _ rfl
  have e2 : W.drew.cell? ⟨w2.heap.size, 2, none⟩ = some (.int .u32 x2) := by rw [hW]; exact new_at _ _ _ 2 _ rfl
  have e3 : W.drew.cell? ⟨w2.heap.size, 3, none⟩ = some (.int .u32 x3) := by rw [hW]; exact new_at _ _ _ 3 _ rfl
  have e4 : W.drew.cell? ⟨w2.heap.size, 4, none⟩ = some (.int .u32 x4) := by rw [hW]; exact new_at _ _ _ 4 _ rfl
  have e5 : W.drew.cell? ⟨w2.heap.size, 5, none⟩ = some (.int .u32 x5) := by rw [hW]; exact new_at _ _ _ 5 _ rfl
  have e6 : W.drew.cell? ⟨w2.heap.size, 6, none⟩ = some (.int .u32 x6) := by rw [hW]; exact new_at _ _ _ 6 _ rfl
  have e7 : W.drew.cell? ⟨w2.heap.size, 7, none⟩ = some (.int .u32 x7) := by rw [hW]; exact new_at _ _ _ 7 _ rfl
  have e8 : W.drew.cell? ⟨w2.heap.size, 8, none⟩ = some (.int .u32 x8) := by rw [hW]; exact new_at _ _ _ 8 _ rfl
  have e9 : W.drew.cell? ⟨w2.heap.size, 9, none⟩ = some (.int .u32 x9) := by rw [hW]; exact new_at _ _ _ 9 _ rfl
  have c0 := KW.some c0 (fun x => x); have c1 := KW.some c1 (fun x => x); have c2 := KW.some c2 (fun x => x); have c3 := KW.some c3 (fun x => x); have c4 := KW.some c4 (fun x => x); have c5 := KW.some c5 (fun x => x); have c6 := KW.some c6 (fun x => x); have c7 := KW.some c7 (fun x => x); have c8 := KW.some c8 (fun x => x); have c9 := KW.some c9 (fun x => x); have d0 := KW.some d0 (fun x => x); have d1 := KW.some d1 (fun x => x); have d2 := KW.some d2 (fun x => x); have d3 := KW.some d3 (fun x => x); have d4 := KW.some d4 (fun x => x); have d5 := KW.some d5 (fun x => x); have d6 := KW.some d6 (fun x => x); have d7 := KW.some d7 (fun x => x); have d8 := KW.some d8 (fun x => x); have d9 := KW.some d9 (fun x => x)
  have A := A2.out.then KW
  rw [← hW]
  clear hW KW A2 hs1 hs2
  have hq := eqTrap
  go_region_with (first
    | (go_at_call 53; refine (WK.out _).mono ?_; rintro r w3 ⟨v1, rfl, R1, K⟩; have c0 := K.some c0 (fun x => x); have c1 := K.some c1 (fun x => x); have c2 := K.some c2 (fun x => x); have c3 := K.some c3 (fun x => x); have c4 := K.some c4 (fun x => x); have c5 := K.some c5 (fun x => x); have c6 := K.some c6 (fun x => x); have c7 := K.some c7 (fun x => x); have c8 := K.some c8 (fun x => x); have c9 := K.some c9 (fun x => x); have d0 := K.some d0 (fun x => x); have d1 := K.some d1 (fun x => x); have d2 := K.some d2 (fun x => x); have d3 := K.some d3 (fun x => x); have d4 := K.some d4 (fun x => x); have d5 := K.some d5 (fun x => x); have d6 := K.some d6 (fun x => x); have d7 := K.some d7 (fun x => x); have d8 := K.some d8 (fun x => x); have d9 := K.some d9 (fun x => x); have e0 := K.some e0 (fun x => x); have e1 := K.some e1 (fun x => x); have e2 := K.some e2 (fun x => x); have e3 := K.some e3 (fun x => x); have e4 := K.some e4 (fun x => x); have e5 := K.some e5 (fun x => x); have e6 := K.some e6 (fun x => x); have e7 := K.some e7 (fun x => x); have e8 := K.some e8 (fun x => x); have e9 := K.some e9 (fun x => x); have A := A.then K; have R1 := R1.words; clear K)
    | (go_at_call 54; refine (RK.out _).mono ?_; rintro r w4 ⟨v2, rfl, R2, K⟩; have c0 := K.some c0 (fun x => x); have c1 := K.some c1 (fun x => x); have c2 := K.some c2 (fun x => x); have c3 := K.some c3 (fun x => x); have c4 := K.some c4 (fun x => x); have c5 := K.some c5 (fun x => x); have c6 := K.some c6 (fun x => x); have c7 := K.some c7 (fun x => x); have c8 := K.some c8 (fun x => x); have c9 := K.some c9 (fun x => x); have d0 := K.some d0 (fun x => x); have d1 := K.some d1 (fun x => x); have d2 := K.some d2 (fun x => x); have d3 := K.some d3 (fun x => x); have d4 := K.some d4 (fun x => x); have d5 := K.some d5 (fun x => x); have d6 := K.some d6 (fun x => x); have d7 := K.some d7 (fun x => x); have d8 := K.some d8 (fun x => x); have d9 := K.some d9 (fun x => x); have e0 := K.some e0 (fun x => x); have e1 := K.some e1 (fun x => x); have e2 := K.some e2 (fun x => x); have e3 := K.some e3 (fun x => x); have e4 := K.some e4 (fun x => x); have e5 := K.some e5 (fun x => x); have e6 := K.some e6 (fun x => x); have e7 := K.some e7 (fun x => x); have e8 := K.some e8 (fun x => x); have e9 := K.some e9 (fun x => x); have A := A.then K; have R1 := R1.next K; have R2 := R2.words; clear K)
    | (go_at_call 34; refine (SM.out _ _ _ R1 R2).mono ?_; rintro r w5 ⟨rfl, K⟩; have c0 := K.some c0 (fun x => x); have c1 := K.some c1 (fun x => x); have c2 := K.some c2 (fun x => x); have c3 := K.some c3 (fun x => x); have c4 := K.some c4 (fun x => x); have c5 := K.some c5 (fun x => x); have c6 := K.some c6 (fun x => x); have c7 := K.some c7 (fun x => x); have c8 := K.some c8 (fun x => x); have c9 := K.some c9 (fun x => x); have d0 := K.some d0 (fun x => x); have d1 := K.some d1 (fun x => x); have d2 := K.some d2 (fun x => x); have d3 := K.some d3 (fun x => x); have d4 := K.some d4 (fun x => x); have d5 := K.some d5 (fun x => x); have d6 := K.some d6 (fun x => x); have d7 := K.some d7 (fun x => x); have d8 := K.some d8 (fun x => x); have d9 := K.some d9 (fun x => x); have e0 := K.some e0 (fun x => x); have e1 := K.some e1 (fun x => x); have e2 := K.some e2 (fun x => x); have e3 := K.some e3 (fun x => x); have e4 := K.some e4 (fun x => x); have e5 := K.some e5 (fun x => x); have e6 := K.some e6 (fun x => x); have e7 := K.some e7 (fun x => x); have e8 := K.some e8 (fun x => x); have e9 := K.some e9 (fun x => x); have A := A.then K; clear K)
    | (go_at_call 50; refine (awake04 _).mono ?_; rintro r w6 ⟨rfl, K⟩; have A := A.then K; clear K))
  all_goals (go_wp2_with fail; go_ret; exact ⟨rfl, A⟩)
theorem walk (v0 : Value) (t : Trap) (v : Value) (l : List Int) (w : World) (w0 : TrapIs v0 t) (w1 : WordsArg w v l) :
    Calls Try.prog 17 #[v0, v] w fun e w' => e = .returned (.bool true) ∧ Keep nob w w' := by
  obtain ⟨rfl, _⟩ := w0
  by_cases hl : l.length ≤ 100
  · exact walk_in t v l w hl w1
  · obtain ⟨⟨a, cap, rfl, _⟩, hm, _⟩ := w1
    have t1 : decide ((100 : Int) < l.length) = true := by simp; omega
    obtain ⟨y0, y1, y2, y3, y4, y5, y6, y7, y8, y9⟩ := t
    unfold Trap.val Trap.cells
    clear hl
    go_enter Try.func17, Try.ntmps17
    go_wp2_with fail
    refine Calls.mono (awake04 _) ?_
    rintro r w6 ⟨rfl, K⟩
    go_wp2_with fail
    go_ret
    exact ⟨rfl, ((Keep.refl _ _).alloc _).then K⟩
set_option maxRecDepth 100000 in
theorem lifted (os : Os) (started : os.Started) (H : Type) (enc : TypeId × Value → H) :
    ReturnsInHanded {} Try.checked os 17 .any (Rows.trapWordsSpec.pre6 enc Try.prog Try.f17 Rows.trapWordsRow.domain false) (Rows.trapWordsSpec.post enc Try.prog Try.f17 false true false false) := by
  refine returnsInHanded_of_change (C := Try.checked) Head.own started (by kernel_rfl) Try.func17
    (ChangeSpec.witness6 (enc := enc) (C := Try.checked) false ⟨#[], #[(.agg #[.int .u32 0, .int .u32 0, .int .u32 0, .int .u32 0, .int .u32 0, .int .u32 0, .int .u32 0, .int .u32 0, .int .u32 0, .int .u32 0]), .slice none 0 0], []⟩ 8 (by kernel_rfl) (by kernel_rfl) (by kernel_rfl) (by kernel_rfl)) ?_
  intro W base args ds gs before hval0 hW hcnd _
  have hval : ∀ (j : Nat) t v, Try.f17.params[j]? = some t → args[j]? = some v → Value.okWide Try.prog W .any base t v := hval0
  have hW' := hW
  obtain ⟨p, q, hA0, hV, rfl, hfz, hnd⟩ := hW
  have hA : DataW.TrodAll enc Try.prog W 0 (fun _ => true) true Try.f17.params.toList args.toList ds p := hA0
  rw [Try.params17] at hA hval
  obtain ⟨v0, vs0, d0, ds0, p0, q0, hargs, rfl, rfl, h0, r0⟩ := trodAll_cons hA
  obtain ⟨v1, vs1, d1, ds1, p1, q1, rfl, rfl, rfl, h1, r1⟩ := trodAll_cons r0
  obtain ⟨rfl, rfl, rfl⟩ := trodAll_nil r1
  obtain rfl : args = #[v0, v1] := by cases args; simp_all
  obtain ⟨rfl, rfl⟩ := trodVars_none hV
  have k0 := h0
  have lt0 : ∀ x ∈ p0, x.block < W.heap.size := by obtain ⟨m, hm⟩ := k0; exact DataW.trod_lt m _ _ _ hm
  obtain ⟨a0, w0⟩ := open_trap (hval 0 76 v0 rfl rfl) h0
  have k1 := h1
  have lt1 : ∀ x ∈ p1, x.block < W.heap.size := by obtain ⟨m, hm⟩ := k1; exact DataW.trod_lt m _ _ _ hm
  obtain ⟨a1, w1⟩ := open_words (hval 1 37 v1 rfl rfl) h1
  clear hA0 hval0
  refine (walk v0 a0 v1 a1 W w0 w1).mono fun e W' ⟨he, kp⟩ => ?_
  subst he
  have bel := kp.below
  exact ⟨_, rfl, _, _, _, [], _, [], hW', trodAll_mk1 (shut_bool Try.underlying4 _), (trodAll_cons_mk (Below.trod Head.laidOut (by kernel_rfl) (of_decide_eq_true (by kernel_rfl)) k0 bel lt0) (trodAll_cons_mk (Below.trod Head.laidOut (by kernel_rfl) (of_decide_eq_true (by kernel_rfl)) k1 bel lt1) trodAll_mk0)), rfl, bel.frame _, fun h => by cases h⟩
theorem closed : joinedFacts Try.prog 17 Try.f17 Rows.trapWordsSpec Rows.trapWordsRow = true := by
  unfold joinedFacts
  rw [Head.mayEnter, Head.liftsFinal, Head.make]
  kernel_rfl
theorem over : Rows.trapWordsRow.holds Try.pinned (OpenSpec.ofChange Rows.trapWordsSpec) :=
  OpenClaim.holds_of_wide 17 Try.f17 rfl rfl rfl rfl rfl rfl rfl ⟨rfl, rfl, rfl, rfl, rfl⟩ rfl rfl rfl rfl rfl (by kernel_rfl) Try.func17 closed
    (of_decide_eq_true (by kernel_rfl)) (by unfold Func.isWrapper; first | (rw [if_pos (by decide +kernel)]; kernel_rfl) | (rw [if_neg (by decide +kernel)]; exact ⟨rfl, rfl⟩))
    (fun os started H enc _ => lifted os started H enc)
theorem proved : Rows.TrapWordsSaid := over
end Go.Proofs.Ytkkkmaigcnpmeaa.trapWords

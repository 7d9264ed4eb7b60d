/- The entry of any page, in any memory, from any root, is the document's, or refused. Condition: 1 to 12 frames, at most 200 words. -/
import Derived.Test.YtkkkmaigcnpmeaaWalkAwake
import Derived.Test.YtkkkmaigcnpmeaaHead
namespace Go.Proofs.Ytkkkmaigcnpmeaa.walkLook
open Go.ChangeShapes Go.WideShapes Go.ChangeAt Go.RowKit Go.Deep
set_option linter.unusedVariables false
set_option maxRecDepth 100000
set_option maxHeartbeats 1600000 in
theorem walk (n : Int) (v : Value) (l : List Cel) (root page : Int) (w : World) (wn : (Lit.int .i64 n).wf = true) (L : CelsAt w v l) (wroot : (Lit.int .i64 root).wf = true) (wva : (Lit.int .i64 page).wf = true) :
    Calls Try.prog 25 #[.int .i64 n, v, .int .i64 root, .int .i64 page] w fun e w' => e = .returned (.bool true) ∧ Keep nob w w' := by
  have FN := fine_ok n v l w L
  have HB := Lib.hid (fineB_iff n l)
  obtain ⟨FB, hFB⟩ : ∃ FB, FB = fineB n l := ⟨_, rfl⟩
  rw [← hFB] at FN HB
  have FN := Lib.hid FN
  clear hFB wn wroot wva
  have HL := Lib.hid L
  cases FB with
  | false =>
    clear L HL
    go_enter Try.func25, Try.ntmps25
    go_wp2_with fail
    refine Calls.mono FN.out ?_
    rintro r w1 ⟨rfl, rfl⟩
    go_wp2_with fail
    refine Calls.mono (awake03 _) ?_
    rintro r w9 ⟨rfl, K⟩
    go_wp2_with fail
    go_ret
    exact ⟨rfl, K⟩
  | true =>
    obtain ⟨n1, n2, n3⟩ := HB.out.1 rfl
    obtain ⟨m, rfl⟩ : ∃ m : Nat, n = m := ⟨n.toNat, by omega⟩
    have BO := Lib.hid (built_ok m v l w (by omega) (by omega) HL.out)
    have NA := Lib.hid (fun W => look_none (w := W) (v := .pointer none) (Or.inl rfl) root page)
    unfold Ent.val Ent.zero at NA
    clear HB HL L n1 n2 n3
    go_enter Try.func25, Try.ntmps25
    go_wp2_with fail
    refine Calls.mono FN.out ?_
    rintro r w1 ⟨rfl, rfl⟩
    go_wp2_with fail
    refine Calls.mono BO.out ?_
    rintro r w1 ⟨b, f, g, rfl, B⟩
    unfold refV
    have KA : Keep nob w1 (w1.alloc (.cells #[.slice (some ⟨g, 0, none⟩) (m * 32) (m * 32)] 58)) := (Keep.refl _ _).alloc _
    have AT := look_ok (B.m.next KA) root page
    have RT := fun W (K : Keep nob w1 W) => reflook_ok (refentry_at (B.r.next K)) root page
    obtain ⟨F, hF⟩ : ∃ F, F = lkF (entE m (memOf m l)) (entOk m (memOf m l)) root page := ⟨_, rfl⟩
    obtain ⟨X, hX⟩ : ∃ X, X = lkE (entE m (memOf m l)) (entOk m (memOf m l)) root page := ⟨_, rfl⟩
    rw [← hF, ← hX] at AT RT
    clear hF hX
    obtain ⟨p, q, c, ff⟩ := X
    unfold Ent.val at AT
    unfold Ent.val refV at RT
    have AT := Lib.hid AT
    have RT := Lib.hid RT
    have A1 := Lib.hid (B.k.then KA)
    clear B
    have KA := Lib.hid KA
    go_wp2_with fail
    refine Calls.mono AT.out ?_
    rintro r w2 ⟨rfl, K2⟩
    have s2 := K2.some (p := ⟨w1.heap.size, 0, none⟩) (v := .slice (some ⟨g, 0, none⟩) (m * 32) (m * 32)) (new_at _ _ _ 0 _ rfl) (fun x => x)
    have hs2 := World.block_lt_of_cell? _ _ s2
    have KE : Keep nob w2 (w2.alloc (.cells #[.bool p, .bool q, .bool c, .int .i64 ff] 47)) := (Keep.refl _ _).alloc _
    have A2 := Lib.hid ((A1.out.then K2).then KE)
    have KB := Lib.hid ((KA.out.then K2).then KE)
    have X2 := Lib.hid (EntAt.new w2 p q c ff 47)
    clear K2 AT A1 KA KE
    go_wp2_with fail
    refine Calls.mono (RT.out _ KB.out) ?_
    rintro r w3 ⟨rfl, K3⟩
    have KE : Keep nob w3 (w3.alloc (.cells #[.bool p, .bool q, .bool c, .int .i64 ff] 47)) := (Keep.refl _ _).alloc _
    have A3 := Lib.hid ((A2.out.then K3).then KE)
    have Y3 := Lib.hid (EntAt.new w3 p q c ff 47)
    have X3 := Lib.hid ((X2.out.next K3).next KE)
    clear K3 A2 KB s2 hs2 RT X2 KE
    go_wp2_with fail
    refine Calls.mono (NA.out _) ?_
    rintro r w4 ⟨rfl, K4⟩
    have A4 := Lib.hid (A3.out.then K4)
    obtain ⟨c0, c1, c2, c3, _, _, _, _⟩ := X3.out.next K4
    obtain ⟨d0, d1, d2, d3, _, _, _, _⟩ := Y3.out.next K4
    have hb1 := World.block_lt_of_cell? _ _ c0
    have hb2 := World.block_lt_of_cell? _ _ d0
    clear K4 A3 NA X3 Y3
    go_wp2_with fail
    refine Calls.mono (awake03 _) ?_
    rintro r w9 ⟨rfl, K⟩
    go_wp2_with fail
    go_ret
    exact ⟨rfl, (A4.out.alloc _).then K⟩
set_option maxRecDepth 100000 in
theorem lifted (os : Os) (started : os.Started) (H : Type) (enc : TypeId × Value → H) :
    ReturnsInHanded {} Try.checked os 25 .any (Rows.walkLookSpec.pre6 enc Try.prog Try.f25 Rows.walkLookRow.domain false) (Rows.walkLookSpec.post enc Try.prog Try.f25 false true false false) := by
  refine returnsInHanded_of_change (C := Try.checked) Head.own started (by kernel_rfl) Try.func25
    (ChangeSpec.witness6 (enc := enc) (C := Try.checked) false ⟨#[], #[.int .i64 0, .slice none 0 0, .int .i64 0, .int .i64 0], []⟩ 8 (by kernel_rfl) (by kernel_rfl) (by kernel_rfl) (by kernel_rfl)) ?_
  intro W base args ds gs before hval0 hW hcnd _
  have hval : ∀ (j : Nat) t v, Try.f25.params[j]? = some t → args[j]? = some v → Value.okWide Try.prog W .any base t v := hval0
  have hW' := hW
  obtain ⟨p, q, hA0, hV, rfl, hfz, hnd⟩ := hW
  have hA : DataW.TrodAll enc Try.prog W 0 (fun _ => true) true Try.f25.params.toList args.toList ds p := hA0
  rw [Try.params25] at hA hval
  obtain ⟨v0, vs0, d0, ds0, p0, q0, hargs, rfl, rfl, h0, r0⟩ := trodAll_cons hA
  obtain ⟨v1, vs1, d1, ds1, p1, q1, rfl, rfl, rfl, h1, r1⟩ := trodAll_cons r0
  obtain ⟨v2, vs2, d2, ds2, p2, q2, rfl, rfl, rfl, h2, r2⟩ := trodAll_cons r1
  obtain ⟨v3, vs3, d3, ds3, p3, q3, rfl, rfl, rfl, h3, r3⟩ := trodAll_cons r2
  obtain ⟨rfl, rfl, rfl⟩ := trodAll_nil r3
  obtain rfl : args = #[v0, v1, v2, v3] := by cases args; simp_all
  obtain ⟨rfl, rfl⟩ := trodVars_none hV
  have k0 := h0
  have lt0 : ∀ x ∈ p0, x.block < W.heap.size := by obtain ⟨m, hm⟩ := k0; exact DataW.trod_lt m _ _ _ hm
  obtain ⟨a0, rfl, rfl, rfl, w0⟩ := open_int Try.underlying3 (hval 0 3 v0 rfl rfl) h0
  have k1 := h1
  have lt1 : ∀ x ∈ p1, x.block < W.heap.size := by obtain ⟨m, hm⟩ := k1; exact DataW.trod_lt m _ _ _ hm
  obtain ⟨a1, w1⟩ := open_cels (hval 1 90 v1 rfl rfl) h1
  have k2 := h2
  have lt2 : ∀ x ∈ p2, x.block < W.heap.size := by obtain ⟨m, hm⟩ := k2; exact DataW.trod_lt m _ _ _ hm
  obtain ⟨a2, rfl, rfl, rfl, w2⟩ := open_int Try.underlying3 (hval 2 3 v2 rfl rfl) h2
  have k3 := h3
  have lt3 : ∀ x ∈ p3, x.block < W.heap.size := by obtain ⟨m, hm⟩ := k3; exact DataW.trod_lt m _ _ _ hm
  obtain ⟨a3, rfl, rfl, rfl, w3⟩ := open_int Try.underlying3 (hval 3 3 v3 rfl rfl) h3
  clear hA0 hval0
  refine (walk a0 v1 a1 a2 a3 W w0 w1 w2 w3).mono fun e W' ⟨he, kp⟩ => ?_
  subst he
  have bel := kp.below
  exact ⟨_, rfl, _, _, _, [], _, [], hW', trodAll_mk1 (shut_bool Try.underlying4 _), (trodAll_cons_mk (shut_int Try.underlying3 w0) (trodAll_cons_mk (Below.trod Head.laidOut (by kernel_rfl) (of_decide_eq_true (by kernel_rfl)) k1 bel lt1) (trodAll_cons_mk (shut_int Try.underlying3 w2) (trodAll_cons_mk (shut_int Try.underlying3 w3) trodAll_mk0)))), rfl, bel.frame _, fun h => by cases h⟩
theorem closed : joinedFacts Try.prog 25 Try.f25 Rows.walkLookSpec Rows.walkLookRow = true := by
  unfold joinedFacts
  rw [Head.mayEnter, Head.liftsFinal, Head.make]
  kernel_rfl
theorem over : Rows.walkLookRow.holds Try.pinned (OpenSpec.ofChange Rows.walkLookSpec) :=
  OpenClaim.holds_of_wide 25 Try.f25 rfl rfl rfl rfl rfl rfl rfl ⟨rfl, rfl, rfl, rfl, rfl⟩ rfl rfl rfl rfl rfl (by kernel_rfl) Try.func25 closed
    (of_decide_eq_true (by kernel_rfl)) (by unfold Func.isWrapper; first | (rw [if_pos (by decide +kernel)]; kernel_rfl) | (rw [if_neg (by decide +kernel)]; exact ⟨rfl, rfl⟩))
    (fun os started H enc _ => lifted os started H enc)
theorem proved : Rows.WalkLookSaid := over
end Go.Proofs.Ytkkkmaigcnpmeaa.walkLook

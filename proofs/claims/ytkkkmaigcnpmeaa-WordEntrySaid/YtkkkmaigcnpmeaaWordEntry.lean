/- Any entry is accepted or refused, and put as a word, as the document says. Condition: none. -/
import Derived.Test.YtkkkmaigcnpmeaaEnt
import Derived.Deep.RegionWith
namespace Go.Proofs.Ytkkkmaigcnpmeaa.wordEntry
open Go.ChangeShapes Go.WideShapes Go.ChangeAt Go.RowKit
set_option linter.unusedVariables false
set_option maxRecDepth 100000
set_option maxHeartbeats 1600000 in
theorem walk_e (e : Ent) (w : World) :
    Calls Try.prog 7 #[e.val] w fun r w' => r = .returned (.bool true) ∧ Keep nob w w' := by
  obtain ⟨P, hP⟩ : ∃ P, putR e = P := ⟨_, rfl⟩
  obtain ⟨C, hC⟩ : ∃ C, chk e = C := ⟨_, rfl⟩
  have h1 := fun W => put_ok e W
  have h2 := fun W => refput_ok e W
  have h3 := fun W => check_ok e W
  have h4 := fun W => refcheck_ok e W
  rw [hP, hC] at h1 h2
  rw [hC] at h3 h4
  have H1 := Lib.hid h1
  have H2 := Lib.hid h2
  have H3 := Lib.hid h3
  have H4 := Lib.hid h4
  clear h1 h2 h3 h4 hP hC
  obtain ⟨p, wr, c, f⟩ := e
  unfold Ent.val at *
  go_enter Try.func7, Try.ntmps7
  go_wp2_with fail
  refine Calls.mono (H1.out _) ?_
  rintro e w1 ⟨rfl, K1⟩
  have c0 := K1.some (p := ⟨w.heap.size, 0, none⟩) (v := .bool p) (by rw [World.cell?_alloc_new]; rfl) (fun x => x)
  have c1 := K1.some (p := ⟨w.heap.size, 1, none⟩) (v := .bool wr) (by rw [World.cell?_alloc_new]; rfl) (fun x => x)
  have c2 := K1.some (p := ⟨w.heap.size, 2, none⟩) (v := .bool c) (by rw [World.cell?_alloc_new]; rfl) (fun x => x)
  have c3 := K1.some (p := ⟨w.heap.size, 3, none⟩) (v := .int .i64 f) (by rw [World.cell?_alloc_new]; rfl) (fun x => x)
  have A := (Keep.alloc (Keep.refl nob w) _).then K1
  clear K1
  go_wp2_with fail
  refine Calls.mono (H2.out _) ?_
  rintro e w2 ⟨rfl, K⟩
  have c0 := K.some c0 (fun x => x)
  have c1 := K.some c1 (fun x => x)
  have c2 := K.some c2 (fun x => x)
  have c3 := K.some c3 (fun x => x)
  have A := A.then K
  clear K
  go_wp2_with fail
  have A := A.drew
  go_region_with (first | (go_at_call 39; refine (H3.out _).mono ?_; rintro r w9 ⟨rfl, K⟩; have c0 := K.some c0 (fun x => x); have c1 := K.some c1 (fun x => x); have c2 := K.some c2 (fun x => x); have c3 := K.some c3 (fun x => x); have A := A.then K; clear K) | (go_at_call 40; refine (H4.out _).mono ?_; rintro r w9 ⟨rfl, K⟩; have c0 := K.some c0 (fun x => x); have c1 := K.some c1 (fun x => x); have c2 := K.some c2 (fun x => x); have c3 := K.some c3 (fun x => x); have A := A.then K; clear K) | (go_at_call 41; refine (awake01 _).mono ?_; rintro r w9 ⟨rfl, K⟩; have A := A.then K; clear K))
  all_goals (go_wp2; go_ret; exact ⟨rfl, A⟩)
theorem walk (v : Value) (e : Ent) (w : World) (h : EntIs v e) :
    Calls Try.prog 7 #[v] w fun r w' => r = .returned (.bool true) ∧ Keep nob w w' := by
  rw [h.1]; exact walk_e e w
set_option maxRecDepth 100000 in
theorem lifted (os : Os) (started : os.Started) (H : Type) (enc : TypeId × Value → H) :
    ReturnsInHanded {} Try.checked os 7 .any (Rows.wordEntrySpec.pre6 enc Try.prog Try.f7 Rows.wordEntryRow.domain false) (Rows.wordEntrySpec.post enc Try.prog Try.f7 false true false false) := by
  refine returnsInHanded_of_change (C := Try.checked) Head.own started (by kernel_rfl) Try.func7
    (ChangeSpec.witness6 (enc := enc) (C := Try.checked) false ⟨#[], #[.agg #[.bool false,.bool false,.bool false,.int .i64 0]], []⟩ 8 (by kernel_rfl) (by kernel_rfl) (by kernel_rfl) (by kernel_rfl)) ?_
  intro W base args ds gs before hval0 hW hcnd _
  have hval : ∀ (j : Nat) t v, Try.f7.params[j]? = some t → args[j]? = some v → Value.okWide Try.prog W .any base t v := hval0
  have hW' := hW
  obtain ⟨p, q, hA0, hV, rfl, hfz, hnd⟩ := hW
  have hA : DataW.TrodAll enc Try.prog W 0 (fun _ => true) true Try.f7.params.toList args.toList ds p := hA0
  rw [Try.params7] at hA hval
  obtain ⟨v0, vs0, d0, ds0, p0, q0, hargs, rfl, rfl, h0, r0⟩ := trodAll_cons hA
  obtain ⟨rfl, rfl, rfl⟩ := trodAll_nil r0
  obtain rfl : args = #[v0] := by cases args; simp_all
  obtain ⟨rfl, rfl⟩ := trodVars_none hV
  have k0 := h0
  have lt0 : ∀ x ∈ p0, x.block < W.heap.size := by obtain ⟨m, hm⟩ := k0; exact DataW.trod_lt m _ _ _ hm
  obtain ⟨a0, w0⟩ := open_ent (hval 0 47 v0 rfl rfl) h0
  clear hA0 hval0
  refine (walk v0 a0 W w0).mono fun e W' ⟨he, kp⟩ => ?_
  subst he
  have bel := kp.below
  exact ⟨_, rfl, _, _, _, [], _, [], hW', trodAll_mk1 (shut_bool Try.underlying4 _), (trodAll_cons_mk (Below.trod Head.laidOut (by kernel_rfl) (of_decide_eq_true (by kernel_rfl)) k0 bel lt0) trodAll_mk0), rfl, bel.frame _, fun h => by cases h⟩
theorem closed : joinedFacts Try.prog 7 Try.f7 Rows.wordEntrySpec Rows.wordEntryRow = true := by
  unfold joinedFacts
  rw [Head.mayEnter, Head.liftsFinal, Head.make]
  kernel_rfl
theorem over : Rows.wordEntryRow.holds Try.pinned (OpenSpec.ofChange Rows.wordEntrySpec) :=
  OpenClaim.holds_of_wide 7 Try.f7 rfl rfl rfl rfl rfl rfl rfl ⟨rfl, rfl, rfl, rfl, rfl⟩ rfl rfl rfl rfl rfl (by kernel_rfl) Try.func7 closed
    (of_decide_eq_true (by kernel_rfl)) (by unfold Func.isWrapper; first | (rw [if_pos (by decide +kernel)]; kernel_rfl) | (rw [if_neg (by decide +kernel)]; exact ⟨rfl, rfl⟩))
    (fun os started H enc _ => lifted os started H enc)
theorem proved : Rows.WordEntrySaid := over
end Go.Proofs.Ytkkkmaigcnpmeaa.wordEntry

/- Any word is read as the entry whose word it is, or refused. Condition: none. -/
import Derived.Test.YtkkkmaigcnpmeaaEnt
namespace Go.Proofs.Ytkkkmaigcnpmeaa.wordGet
open Go.ChangeShapes Go.WideShapes Go.ChangeAt Go.RowKit
set_option linter.unusedVariables false
set_option maxRecDepth 100000
set_option maxHeartbeats 1600000 in
theorem walk_x (x : Int) (w : World) (h0 : 0 ≤ x) (h1 : x < 4294967296) :
    Calls Try.prog 8 #[.int .u32 x] w fun r w' => r = .returned (.bool true) ∧ Keep nob w w' := by
  have h1' := fun W => get_ok x W h0 h1
  have h2' := fun W => refget_ok x W h0 h1
  obtain ⟨C, hC⟩ : ∃ C, gchk x = C := ⟨_, rfl⟩
  rw [hC] at h1' h2'
  obtain ⟨e, he⟩ : ∃ e, getR x = e := ⟨_, rfl⟩
  rw [he] at h1' h2'
  have H1 := Lib.hid h1'
  have H2 := Lib.hid h2'
  clear h1' h2' hC he
  obtain ⟨p, wr, c, f⟩ := e
  unfold Ent.val at *
  go_enter Try.func8, Try.ntmps8
  go_wp2_with fail
  refine Calls.mono (H1.out _) ?_
  rintro e w1 ⟨rfl, K⟩
  have A := Lib.hid K
  clear K
  go_wp2_with fail
  obtain ⟨W, hW⟩ : ∃ W, W = w1.alloc (.cells #[.bool p, .bool wr, .bool c, .int .i64 f] 47) := ⟨_, rfl⟩
  have c0 : W.cell? ⟨w1.heap.size, 0, none⟩ = some (.bool p) := by rw [hW]; go_simp
  have c1 : W.cell? ⟨w1.heap.size, 1, none⟩ = some (.bool wr) := by rw [hW]; go_simp
  have c2 : W.cell? ⟨w1.heap.size, 2, none⟩ = some (.bool c) := by rw [hW]; go_simp
  have c3 : W.cell? ⟨w1.heap.size, 3, none⟩ = some (.int .i64 f) := by rw [hW]; go_simp
  have A : Hid (Keep nob w W) := by rw [hW]; exact A.out.alloc _
  rw [← hW]
  clear hW
  refine Calls.mono (H2.out _) ?_
  rintro e w2 ⟨rfl, K⟩
  have c0 := K.some c0 (fun x => x)
  have c1 := K.some c1 (fun x => x)
  have c2 := K.some c2 (fun x => x)
  have c3 := K.some c3 (fun x => x)
  have A := A.out.then K
  have hlt := World.block_lt_of_cell? _ _ c0
  clear K
  go_wp2_with fail
  refine Calls.mono (awake01 _) ?_
  rintro r w9 ⟨rfl, K⟩
  go_wp2
  go_ret
  exact ⟨rfl, (A.alloc _).then K⟩
theorem walk (x : Int) (w : World) (w0 : (Lit.int .u32 x).wf = true) :
    Calls Try.prog 8 #[.int .u32 x] w fun r w' => r = .returned (.bool true) ∧ Keep nob w w' :=
  walk_x x w (u32_wf w0).1 (u32_wf w0).2
set_option maxRecDepth 100000 in
theorem lifted (os : Os) (started : os.Started) (H : Type) (enc : TypeId × Value → H) :
    ReturnsInHanded {} Try.checked os 8 .any (Rows.wordGetSpec.pre6 enc Try.prog Try.f8 Rows.wordGetRow.domain false) (Rows.wordGetSpec.post enc Try.prog Try.f8 false true false false) := by
  refine returnsInHanded_of_change (C := Try.checked) Head.own started (by kernel_rfl) Try.func8
    (ChangeSpec.witness6 (enc := enc) (C := Try.checked) false ⟨#[], #[.int .u32 0], []⟩ 8 (by kernel_rfl) (by kernel_rfl) (by kernel_rfl) (by kernel_rfl)) ?_
  intro W base args ds gs before hval0 hW hcnd _
  have hval : ∀ (j : Nat) t v, Try.f8.params[j]? = some t → args[j]? = some v → Value.okWide Try.prog W .any base t v := hval0
  have hW' := hW
  obtain ⟨p, q, hA0, hV, rfl, hfz, hnd⟩ := hW
  have hA : DataW.TrodAll enc Try.prog W 0 (fun _ => true) true Try.f8.params.toList args.toList ds p := hA0
  rw [Try.params8] at hA hval
  obtain ⟨v0, vs0, d0, ds0, p0, q0, hargs, rfl, rfl, h0, r0⟩ := trodAll_cons hA
  obtain ⟨rfl, rfl, rfl⟩ := trodAll_nil r0
  obtain rfl : args = #[v0] := by cases args; simp_all
  obtain ⟨rfl, rfl⟩ := trodVars_none hV
  have k0 := h0
  have lt0 : ∀ x ∈ p0, x.block < W.heap.size := by obtain ⟨m, hm⟩ := k0; exact DataW.trod_lt m _ _ _ hm
  obtain ⟨a0, rfl, rfl, rfl, w0⟩ := open_int Try.underlying23 (hval 0 23 v0 rfl rfl) h0
  clear hA0 hval0
  refine (walk a0 W w0).mono fun e W' ⟨he, kp⟩ => ?_
  subst he
  have bel := kp.below
  exact ⟨_, rfl, _, _, _, [], _, [], hW', trodAll_mk1 (shut_bool Try.underlying4 _), (trodAll_cons_mk (shut_int Try.underlying23 w0) trodAll_mk0), rfl, bel.frame _, fun h => by cases h⟩
theorem closed : joinedFacts Try.prog 8 Try.f8 Rows.wordGetSpec Rows.wordGetRow = true := by
  unfold joinedFacts
  rw [Head.mayEnter, Head.liftsFinal, Head.make]
  kernel_rfl
theorem over : Rows.wordGetRow.holds Try.pinned (OpenSpec.ofChange Rows.wordGetSpec) :=
  OpenClaim.holds_of_wide 8 Try.f8 rfl rfl rfl rfl rfl rfl rfl ⟨rfl, rfl, rfl, rfl, rfl⟩ rfl rfl rfl rfl rfl (by kernel_rfl) Try.func8 closed
    (of_decide_eq_true (by kernel_rfl)) (by unfold Func.isWrapper; first | (rw [if_pos (by decide +kernel)]; kernel_rfl) | (rw [if_neg (by decide +kernel)]; exact ⟨rfl, rfl⟩))
    (fun os started H enc _ => lifted os started H enc)
theorem proved : Rows.WordGetSaid := over
end Go.Proofs.Ytkkkmaigcnpmeaa.wordGet

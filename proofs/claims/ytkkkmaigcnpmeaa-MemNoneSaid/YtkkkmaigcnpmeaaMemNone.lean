/- A memory that is not there, or that nobody made, answers ErrNil, and tells nothing. Condition: none. -/
import Derived.Test.YtkkkmaigcnpmeaaMemAwake
import Derived.Test.YtkkkmaigcnpmeaaHead
import Derived.ProofKit
import Derived.OpenShut
import Derived.ChangeOld
import Derived.Below
namespace Go.Proofs.Ytkkkmaigcnpmeaa.memNone
open Go.ChangeShapes Go.WideShapes Go.ChangeAt Go.RowKit
set_option linter.unusedVariables false
set_option maxRecDepth 100000

def Inv (w : World) (m i : Value) (wr : World) : Prop :=
  ∃ k : Int, i = .int .i64 k ∧ 0 ≤ k ∧ k ≤ 2 ∧ (k < 2 → m = .pointer none) ∧ wr.cell? ⟨w.heap.size, 0, none⟩ = some (.slice none 0 0) ∧ Keep nob w wr

set_option maxHeartbeats 1600000 in
theorem walk (a b x : Int) (w : World) (w0 : (Lit.int .i64 a).wf = true) (w1 : (Lit.int .i64 b).wf = true) (w2 : (Lit.int .u32 x).wf = true) :
    Calls Try.prog 12 #[.int .i64 a, .int .i64 b, .int .u32 x] w fun e w' => e = .returned (.bool true) ∧ Keep nob w w' := by
  clear w0 w1 w2
  go_enter Try.func12, Try.ntmps12
  go_wp2_with fail
  go_loopw [7, 9] (fun m i wr => Inv w m i wr) (fun _ i _ => (2 - intOf i).toNat)
  case atStart => exact ⟨0, rfl, by decide, by decide, fun _ => rfl, by go_simp, (Keep.refl _ _).alloc _⟩
  case round =>
    obtain ⟨k, rfl, hk0, hk2, hm, hc, A⟩ := hrel
    obtain rfl | rfl | rfl : k = 0 ∨ k = 1 ∨ k = 2 := by omega
    · have hm := hm (by decide)
      subst hm
      have N0 : NoMem wr (.pointer none) := Or.inl rfl
      go_wp2_with fail
      refine Calls.mono (read_none N0 a b) ?_
      rintro e w3 ⟨rfl, K⟩
      have A3 := A.then K
      have hc3 := K.some hc (fun x => x)
      have N3 := N0.next K
      clear K A N0 hc
      go_wp2_with fail
      refine Calls.mono (page_none N3 a) ?_
      rintro e w4 ⟨rfl, K⟩
      have A4 := A3.then K
      have hc4 := K.some hc3 (fun x => x)
      have N4 := N3.next K
      clear K A3 N3 hc3
      go_wp2_with fail
      refine Calls.mono (write_none N4 a b x) ?_
      rintro e w5 ⟨rfl, K⟩
      have A5 := A4.then K
      have hc5 := K.some hc4 (fun x => x)
      have N5 := N4.next K
      clear K A4 N4 hc4
      go_wp2_with fail
      refine Calls.mono (zero_none N5 a) ?_
      rintro e w6 ⟨rfl, K⟩
      have A6 := A5.then K
      have hc6 := K.some hc5 (fun x => x)
      have N6 := N5.next K
      clear K A5 N5 hc5
      go_wp2_with fail
      refine Calls.mono (copy_none N6 a b) ?_
      rintro e w7 ⟨rfl, K⟩
      have A7 := A6.then K
      have hc7 := K.some hc6 (fun x => x)
      have N7 := N6.next K
      clear K A6 N6 hc6
      go_wp2_with fail
      refine Calls.mono (frames_none N7) ?_
      rintro e w8 ⟨rfl, rfl⟩
      go_wp2_with fail
      go_roundw
      case rel => exact ⟨1, rfl, by decide, by decide, fun _ => rfl, hc7, A7⟩
      case measure => simp [intOf]
    · have N0 : NoMem wr (.pointer (some ⟨w.heap.size, 0, none⟩)) := Or.inr ⟨_, rfl, hc⟩
      go_wp2_with fail
      refine Calls.mono (read_none N0 a b) ?_
      rintro e w3 ⟨rfl, K⟩
      have A3 := A.then K
      have hc3 := K.some hc (fun x => x)
      have N3 := N0.next K
      clear K A N0 hc
      go_wp2_with fail
      refine Calls.mono (page_none N3 a) ?_
      rintro e w4 ⟨rfl, K⟩
      have A4 := A3.then K
      have hc4 := K.some hc3 (fun x => x)
      have N4 := N3.next K
      clear K A3 N3 hc3
      go_wp2_with fail
      refine Calls.mono (write_none N4 a b x) ?_
      rintro e w5 ⟨rfl, K⟩
      have A5 := A4.then K
      have hc5 := K.some hc4 (fun x => x)
      have N5 := N4.next K
      clear K A4 N4 hc4
      go_wp2_with fail
      refine Calls.mono (zero_none N5 a) ?_
      rintro e w6 ⟨rfl, K⟩
      have A6 := A5.then K
      have hc6 := K.some hc5 (fun x => x)
      have N6 := N5.next K
      clear K A5 N5 hc5
      go_wp2_with fail
      refine Calls.mono (copy_none N6 a b) ?_
      rintro e w7 ⟨rfl, K⟩
      have A7 := A6.then K
      have hc7 := K.some hc6 (fun x => x)
      have N7 := N6.next K
      clear K A6 N6 hc6
      go_wp2_with fail
      refine Calls.mono (frames_none N7) ?_
      rintro e w8 ⟨rfl, rfl⟩
      go_wp2_with fail
      go_roundw
      case rel => exact ⟨2, rfl, by decide, by decide, fun h => absurd h (by decide), hc7, A7⟩
      case measure => simp [intOf]
    · go_wp2_with fail
      refine Calls.mono (awake02 _) ?_
      rintro e w11 ⟨rfl, K11⟩
      go_wp2
      go_ret
      exact ⟨rfl, A.then K11⟩
set_option maxRecDepth 100000 in
theorem lifted (os : Os) (started : os.Started) (H : Type) (enc : TypeId × Value → H) :
    ReturnsInHanded {} Try.checked os 12 .any (Rows.memNoneSpec.pre6 enc Try.prog Try.f12 Rows.memNoneRow.domain false) (Rows.memNoneSpec.post enc Try.prog Try.f12 false true false false) := by
  refine returnsInHanded_of_change (C := Try.checked) Head.own started (by kernel_rfl) Try.func12
    (ChangeSpec.witness6 (enc := enc) (C := Try.checked) false ⟨#[], #[.int .i64 0, .int .i64 0, .int .u32 0], []⟩ 8 (by kernel_rfl) (by kernel_rfl) (by kernel_rfl) (by kernel_rfl)) ?_
  intro W base args ds gs before hval0 hW hcnd _
  have hval : ∀ (j : Nat) t v, Try.f12.params[j]? = some t → args[j]? = some v → Value.okWide Try.prog W .any base t v := hval0
  have hW' := hW
  obtain ⟨p, q, hA0, hV, rfl, hfz, hnd⟩ := hW
  have hA : DataW.TrodAll enc Try.prog W 0 (fun _ => true) true Try.f12.params.toList args.toList ds p := hA0
  rw [Try.params12] at hA hval
  obtain ⟨v0, vs0, d0, ds0, p0, q0, hargs, rfl, rfl, h0, r0⟩ := trodAll_cons hA
  obtain ⟨v1, vs1, d1, ds1, p1, q1, rfl, rfl, rfl, h1, r1⟩ := trodAll_cons r0
  obtain ⟨v2, vs2, d2, ds2, p2, q2, rfl, rfl, rfl, h2, r2⟩ := trodAll_cons r1
  obtain ⟨rfl, rfl, rfl⟩ := trodAll_nil r2
  obtain rfl : args = #[v0, v1, v2] := by cases args; simp_all
  obtain ⟨rfl, rfl⟩ := trodVars_none hV
  have k0 := h0
  have lt0 : ∀ x ∈ p0, x.block < W.heap.size := by obtain ⟨m, hm⟩ := k0; exact DataW.trod_lt m _ _ _ hm
  obtain ⟨a0, rfl, rfl, rfl, w0⟩ := open_int Try.underlying3 (hval 0 3 v0 rfl rfl) h0
  have k1 := h1
  have lt1 : ∀ x ∈ p1, x.block < W.heap.size := by obtain ⟨m, hm⟩ := k1; exact DataW.trod_lt m _ _ _ hm
  obtain ⟨a1, rfl, rfl, rfl, w1⟩ := open_int Try.underlying3 (hval 1 3 v1 rfl rfl) h1
  have k2 := h2
  have lt2 : ∀ x ∈ p2, x.block < W.heap.size := by obtain ⟨m, hm⟩ := k2; exact DataW.trod_lt m _ _ _ hm
  obtain ⟨a2, rfl, rfl, rfl, w2⟩ := open_int Try.underlying23 (hval 2 23 v2 rfl rfl) h2
  clear hA0 hval0
  refine (walk a0 a1 a2 W w0 w1 w2).mono fun e W' ⟨he, kp⟩ => ?_
  subst he
  have bel := kp.below
  exact ⟨_, rfl, _, _, _, [], _, [], hW', trodAll_mk1 (shut_bool Try.underlying4 _), (trodAll_cons_mk (shut_int Try.underlying3 w0) (trodAll_cons_mk (shut_int Try.underlying3 w1) (trodAll_cons_mk (shut_int Try.underlying23 w2) trodAll_mk0))), rfl, bel.frame _, fun h => by cases h⟩
theorem closed : joinedFacts Try.prog 12 Try.f12 Rows.memNoneSpec Rows.memNoneRow = true := by
  unfold joinedFacts
  rw [Head.mayEnter, Head.liftsFinal, Head.make]
  kernel_rfl
theorem over : Rows.memNoneRow.holds Try.pinned (OpenSpec.ofChange Rows.memNoneSpec) :=
  OpenClaim.holds_of_wide 12 Try.f12 rfl rfl rfl rfl rfl rfl rfl ⟨rfl, rfl, rfl, rfl, rfl⟩ rfl rfl rfl rfl rfl (by kernel_rfl) Try.func12 closed
    (of_decide_eq_true (by kernel_rfl)) (by unfold Func.isWrapper; first | (rw [if_pos (by decide +kernel)]; kernel_rfl) | (rw [if_neg (by decide +kernel)]; exact ⟨rfl, rfl⟩))
    (fun os started H enc _ => lifted os started H enc)
theorem proved : Rows.MemNoneSaid := over
end Go.Proofs.Ytkkkmaigcnpmeaa.memNone

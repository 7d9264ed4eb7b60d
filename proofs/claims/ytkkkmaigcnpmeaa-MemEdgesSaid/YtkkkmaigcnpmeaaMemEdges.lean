/- The first and the last place of a memory are there, and none ahead of or behind them, whatever is written. Condition: none beyond the statement's own. -/
import Derived.Test.YtkkkmaigcnpmeaaMemAwake
import Derived.Test.YtkkkmaigcnpmeaaHead
import Derived.ProofKit
import Derived.OpenShut
import Derived.ChangeOld
import Derived.Below
namespace Go.Proofs.Ytkkkmaigcnpmeaa.memEdges
open Go.ChangeShapes Go.WideShapes Go.ChangeAt Go.RowKit
set_option linter.unusedVariables false
set_option maxRecDepth 100000

theorem u32_wf {n : Int} (h : (Lit.int .u32 n).wf = true) : 0 ≤ n ∧ n < 4294967296 := by
  have := bounds_u32 h
  omega
theorem last_ok (n : Int) (v x : Int) (h1 : 1 ≤ n) : upd (upd (fun _ => 0) ((0 : Int).toNat * 32 + (0 : Int).toNat) v) ((n - 1).toNat * 32 + (31 : Int).toNat) x ((0 : Int).toNat * 32 + (0 : Int).toNat) = v := by
  simp only [upd]
  rw [if_neg (by simp), if_pos trivial]
theorem last_ok2 (n : Int) (v x : Int) : upd (upd (fun _ => 0) ((0 : Int).toNat * 32 + (0 : Int).toNat) v) ((n - 1).toNat * 32 + (31 : Int).toNat) x ((n - 1).toNat * 32 + (31 : Int).toNat) = x := by
  simp [upd]

set_option maxHeartbeats 800000 in
theorem walk_in (n v x : Int) (w : World) (h1 : 1 ≤ n) (h2 : n ≤ 1024) (hv : 0 ≤ v ∧ v < 4294967296) (hx : 0 ≤ x ∧ x < 4294967296) :
    Calls Try.prog 5 #[.int .i64 n, .int .u32 v, .int .u32 x] w fun e w' => e = .returned (.bool true) ∧ Keep nob w w' := by
  go_enter Try.func5, Try.ntmps5
  go_wp2_with fail
  refine Calls.mono (new_ok _ n h1 h2) ?_
  rintro e w1 ⟨b, f, rfl, M1, hb, hf, K1⟩
  go_wp2_with fail
  refine Calls.mono (write_in M1 0 0 v (by decide) (by omega) (by decide) (by decide) hv) ?_
  rintro e w2 ⟨rfl, M2, K2⟩
  have A2 : Keep (fun q => w.heap.size ≤ q) w w2 := K1.nob.trans K2 (fun k hk e => by unfold only at e; omega)
  clear K1 K2 M1
  go_wp2_with fail
  refine Calls.mono (write_in M2 (n - 1) 31 x (by omega) (by omega) (by decide) (by decide) hx) ?_
  rintro e w3 ⟨rfl, M3, K3⟩
  have A3 := A2.trans K3 (fun q hq e => by unfold only at e; omega)
  clear A2 K3 M2
  go_wp2_with fail
  refine Calls.mono (write_out M3 n 0 v (by omega)) ?_
  rintro e w4 ⟨rfl, K4⟩
  have M4 := M3.next K4
  have A4 := A3.then K4
  clear M3 K4 A3
  go_wp2_with fail
  refine Calls.mono (write_out M4 0 32 v (by omega)) ?_
  rintro e w5 ⟨rfl, K5⟩
  have M5 := M4.next K5
  have A5 := A4.then K5
  clear M4 K5 A4
  go_wp2_with fail
  refine Calls.mono (write_out M5 (-1) 0 v (by omega)) ?_
  rintro e w6 ⟨rfl, K6⟩
  have M6 := M5.next K6
  have A6 := A5.then K6
  clear M5 K6 A5
  go_wp2_with fail
  refine Calls.mono (write_out M6 0 (-1) v (by omega)) ?_
  rintro e w7 ⟨rfl, K7⟩
  have M7 := M6.next K7
  have A7 := A6.then K7
  clear M6 K7 A6
  go_wp2_with fail
  have hr := read_in M7 0 0 (by decide) (by omega) (by decide) (by decide)
  rw [last_ok n v x h1] at hr
  refine Calls.mono hr ?_
  clear hr
  rintro e w8 ⟨rfl, K8⟩
  have M8 := M7.next K8
  have A8 := A7.then K8
  clear M7 K8 A7
  go_wp2_with fail
  have hr := read_in M8 (n - 1) 31 (by omega) (by omega) (by decide) (by decide)
  rw [last_ok2 n v x] at hr
  refine Calls.mono hr ?_
  clear hr
  rintro e w9 ⟨rfl, K9⟩
  have M9 := M8.next K9
  have A9 := A8.then K9
  clear M8 K9 A8
  go_wp2_with fail
  refine Calls.mono (frames_at M9) ?_
  rw [show ((n.toNat : Nat) : Int) = n by omega]
  rintro e w10 ⟨rfl, rfl⟩
  go_wp2_with fail
  refine Calls.mono (awake02 _) ?_
  rintro e w11 ⟨rfl, K11⟩
  go_wp2
  go_ret
  exact ⟨rfl, (A9.then K11).mono (fun q hq e => by omega)⟩
theorem walk_else (n v x : Int) (w : World) (h : ¬ (1 ≤ n ∧ n ≤ 1024)) :
    Calls Try.prog 5 #[.int .i64 n, .int .u32 v, .int .u32 x] w fun e w' => e = .returned (.bool true) ∧ Keep nob w w' := by
  have H := Lib.hid h
  by_cases h1 : n < 1
  · have t1 : decide (n < 1) = true := by simpa using h1
    clear h
    go_enter Try.func5, Try.ntmps5
    go_wp2_with fail
    refine Calls.mono (new_out _ n H.out) ?_
    rintro e w1 ⟨rfl, rfl⟩
    go_wp2_with fail
    refine Calls.mono (awake02 _) ?_
    rintro e w11 ⟨rfl, K11⟩
    go_wp2
    go_ret
    exact ⟨rfl, K11⟩
  · have t1 : decide (n < 1) = false := by simpa using h1
    have t2 : decide (1024 < n) = true := by simp; omega
    clear h
    go_enter Try.func5, Try.ntmps5
    go_wp2_with fail
    refine Calls.mono (new_out _ n H.out) ?_
    rintro e w1 ⟨rfl, rfl⟩
    go_wp2_with fail
    refine Calls.mono (awake02 _) ?_
    rintro e w11 ⟨rfl, K11⟩
    go_wp2
    go_ret
    exact ⟨rfl, K11⟩
theorem walk (n v x : Int) (w : World) (w0 : (Lit.int .i64 n).wf = true) (w1 : (Lit.int .u32 v).wf = true) (w2 : (Lit.int .u32 x).wf = true) :
    Calls Try.prog 5 #[.int .i64 n, .int .u32 v, .int .u32 x] w fun e w' => e = .returned (.bool true) ∧ Keep nob w w' := by
  by_cases h : 1 ≤ n ∧ n ≤ 1024
  · exact walk_in n v x w h.1 h.2 (u32_wf w1) (u32_wf w2)
  · exact walk_else n v x w h
set_option maxRecDepth 100000 in
theorem lifted (os : Os) (started : os.Started) (H : Type) (enc : TypeId × Value → H) :
    ReturnsInHanded {} Try.checked os 5 .any (Rows.memEdgesSpec.pre6 enc Try.prog Try.f5 Rows.memEdgesRow.domain false) (Rows.memEdgesSpec.post enc Try.prog Try.f5 false true false false) := by
  refine returnsInHanded_of_change (C := Try.checked) Head.own started (by kernel_rfl) Try.func5
    (ChangeSpec.witness6 (enc := enc) (C := Try.checked) false ⟨#[], #[.int .i64 0, .int .u32 0, .int .u32 0], []⟩ 8 (by kernel_rfl) (by kernel_rfl) (by kernel_rfl) (by kernel_rfl)) ?_
  intro W base args ds gs before hval0 hW hcnd _
  have hval : ∀ (j : Nat) t v, Try.f5.params[j]? = some t → args[j]? = some v → Value.okWide Try.prog W .any base t v := hval0
  have hW' := hW
  obtain ⟨p, q, hA0, hV, rfl, hfz, hnd⟩ := hW
  have hA : DataW.TrodAll enc Try.prog W 0 (fun _ => true) true Try.f5.params.toList args.toList ds p := hA0
  rw [Try.params5] at hA hval
  obtain ⟨v0, vs0, d0, ds0, p0, q0, hargs, rfl, rfl, h0, r0⟩ := trodAll_cons hA
  obtain ⟨v1, vs1, d1, ds1, p1, q1, rfl, rfl, rfl, h1, r1⟩ := trodAll_cons r0
  obtain ⟨v2, vs2, d2, ds2, p2, q2, rfl, rfl, rfl, h2, r2⟩ := trodAll_cons r1
  obtain ⟨rfl, rfl, rfl⟩ := trodAll_nil r2
  obtain rfl : args = #[v0, v1, v2] := by cases args; simp_all
  obtain ⟨rfl, rfl⟩ := trodVars_none hV
  have k0 := h0
  have lt0 : ∀ x ∈ p0, x.block < W.heap.size := by obtain ⟨m, hm⟩ := k0; exact DataW.trod_lt m _ _ _ hm
  obtain ⟨a0, rfl, rfl, rfl, w0⟩ := open_int Try.underlying3 (hval 0 3 v0 rfl rfl) h0
  have k1 := h1
  have lt1 : ∀ x ∈ p1, x.block < W.heap.size := by obtain ⟨m, hm⟩ := k1; exact DataW.trod_lt m _ _ _ hm
  obtain ⟨a1, rfl, rfl, rfl, w1⟩ := open_int Try.underlying23 (hval 1 23 v1 rfl rfl) h1
  have k2 := h2
  have lt2 : ∀ x ∈ p2, x.block < W.heap.size := by obtain ⟨m, hm⟩ := k2; exact DataW.trod_lt m _ _ _ hm
  obtain ⟨a2, rfl, rfl, rfl, w2⟩ := open_int Try.underlying23 (hval 2 23 v2 rfl rfl) h2
  clear hA0 hval0
  refine (walk a0 a1 a2 W w0 w1 w2).mono fun e W' ⟨he, kp⟩ => ?_
  subst he
  have bel := kp.below
  exact ⟨_, rfl, _, _, _, [], _, [], hW', trodAll_mk1 (shut_bool Try.underlying4 _), (trodAll_cons_mk (shut_int Try.underlying3 w0) (trodAll_cons_mk (shut_int Try.underlying23 w1) (trodAll_cons_mk (shut_int Try.underlying23 w2) trodAll_mk0))), rfl, bel.frame _, fun h => by cases h⟩
theorem closed : joinedFacts Try.prog 5 Try.f5 Rows.memEdgesSpec Rows.memEdgesRow = true := by
  unfold joinedFacts
  rw [Head.mayEnter, Head.liftsFinal, Head.make]
  kernel_rfl
theorem over : Rows.memEdgesRow.holds Try.pinned (OpenSpec.ofChange Rows.memEdgesSpec) :=
  OpenClaim.holds_of_wide 5 Try.f5 rfl rfl rfl rfl rfl rfl rfl ⟨rfl, rfl, rfl, rfl, rfl⟩ rfl rfl rfl rfl rfl (by kernel_rfl) Try.func5 closed
    (of_decide_eq_true (by kernel_rfl)) (by unfold Func.isWrapper; first | (rw [if_pos (by decide +kernel)]; kernel_rfl) | (rw [if_neg (by decide +kernel)]; exact ⟨rfl, rfl⟩))
    (fun os started H enc _ => lifted os started H enc)
theorem proved : Rows.MemEdgesSaid := over
end Go.Proofs.Ytkkkmaigcnpmeaa.memEdges

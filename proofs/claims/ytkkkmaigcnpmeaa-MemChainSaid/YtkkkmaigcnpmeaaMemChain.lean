/- A frame that is copied on and on is everywhere the same, and changing the first one changes none of the others. Condition: none beyond the statement's own. -/
import Derived.Test.YtkkkmaigcnpmeaaMemAwake
import Derived.Test.YtkkkmaigcnpmeaaHead
import Derived.ProofKit
import Derived.OpenShut
import Derived.ChangeOld
import Derived.Below
namespace Go.Proofs.Ytkkkmaigcnpmeaa.memChain
open Go.ChangeShapes Go.WideShapes Go.ChangeAt Go.RowKit
set_option linter.unusedVariables false
set_option maxRecDepth 100000

theorem u32_wf {n : Int} (h : (Lit.int .u32 n).wf = true) : 0 ≤ n ∧ n < 4294967296 := by
  have := bounds_u32 h
  omega

/-- Ahead of each round of the first loop: the frames below k have the word v at the place p. -/
def Inv1 (b f : Nat) (n p v : Int) (w : World) (i : Value) (wr : World) : Prop :=
  ∃ (k : Int) (c : Nat → Int), i = .int .i64 k ∧ 1 ≤ k ∧ k ≤ n ∧ MemAt wr b f n.toNat c ∧ (∀ j : Nat, (j : Int) < k → c (j * 32 + p.toNat) = v) ∧ Keep (fun q => w.heap.size ≤ q) w wr
/-- Of the second loop: all frames but the first one have it. -/
def Inv2 (b f : Nat) (n p v x : Int) (w : World) (i : Value) (wr : World) : Prop :=
  ∃ (k : Int) (c : Nat → Int), i = .int .i64 k ∧ 1 ≤ k ∧ k ≤ n ∧ MemAt wr b f n.toNat c ∧ (∀ j : Nat, 1 ≤ j → (j : Int) < n → c (j * 32 + p.toNat) = v) ∧ c p.toNat = x ∧ Keep (fun q => w.heap.size ≤ q) w wr

set_option maxHeartbeats 800000 in
theorem walk_in (n p v x : Int) (w : World) (h1 : 2 ≤ n) (h2 : n ≤ 20) (h3 : 0 ≤ p) (h4 : p < 32) (hv : 0 ≤ v ∧ v < 4294967296) (hx : 0 ≤ x ∧ x < 4294967296) :
    Calls Try.prog 3 #[.int .i64 n, .int .i64 p, .int .u32 v, .int .u32 x] w fun e w' => e = .returned (.bool true) ∧ Keep nob w w' := by
  have t1 : decide (n < 2) = false := by simpa using h1
  have t2 : decide (20 < n) = false := by simpa using h2
  have t3 : decide (p < 0) = false := by simpa using h3
  have t4 : decide (32 ≤ p) = false := by simpa using h4
  go_enter Try.func3, Try.ntmps3
  go_wp2_with fail
  refine Calls.mono (new_ok _ n (by omega) (by omega)) ?_
  rintro e w1 ⟨b, f, rfl, M1, hb, hf, K1⟩
  go_wp2_with fail
  refine Calls.mono (write_in M1 0 p v (by decide) (by omega) h3 h4 hv) ?_
  rintro e w2 ⟨rfl, M2, K2⟩
  have A2 : Keep (fun q => w.heap.size ≤ q) w w2 := K1.nob.trans K2 (fun k hk e => by unfold only at e; omega)
  clear K1 K2 M1
  go_wp2_with fail
  go_loopw [11] (fun i wr => Inv1 b f n p v w i wr) (fun i _ => (n - intOf i).toNat)
  case atStart =>
    refine ⟨1, _, rfl, by decide, by omega, M2, fun j hj => ?_, A2⟩
    obtain rfl : j = 0 := by omega
    simp [upd]
  case round =>
    obtain ⟨k, c, rfl, hk1, hk2, M, hc, A⟩ := hrel
    by_cases hlt : k < n
    · have t5 : decide (k < n) = true := by simpa using hlt
      go_wp2_with fail
      refine Calls.mono (copy_in M k (k - 1) (by omega) (by omega) (by omega) (by omega)) ?_
      rintro e w3 ⟨rfl, M3, K3⟩
      go_wp2_with fail
      go_roundw
      case rel =>
        refine ⟨k + 1, _, rfl, by omega, by omega, M3, fun j hj => ?_, A.trans K3 (fun q hq e => by unfold only at e; omega)⟩
        unfold updRow
        split
        · have := hc (k - 1).toNat (by omega)
          rw [show j * 32 + p.toNat - k.toNat * 32 = p.toNat by omega]
          exact this
        · exact hc j (by omega)
      case measure => simp [intOf]; omega
    · have t5 : decide (k < n) = false := by simpa using hlt
      go_wp2_with fail
      refine Calls.mono (write_in M 0 p x (by decide) (by omega) h3 h4 hx) ?_
      rintro e w3 ⟨rfl, M3, K3⟩
      have A3 := A.trans K3 (fun q hq e => by unfold only at e; omega)
      have hc3 := Lib.hid hc
      clear hc A K3 M
      go_wp2_with fail
      go_loopw [12, 13, 14] (fun i _ _ wr => Inv2 b f n p v x w i wr) (fun i _ _ _ => (n - intOf i).toNat)
      case atStart =>
        refine ⟨1, _, rfl, by decide, by omega, M3, fun j hj1 hj2 => ?_, ?_, A3⟩
        · simp only [upd]
          rw [if_neg (by simp; omega)]
          exact hc3.out j (by omega)
        · simp [upd]
      case round =>
        obtain ⟨k', c', rfl, hk1', hk2', M', hc', hx', A'⟩ := hrel
        by_cases hlt' : k' < n
        · have t6 : decide (k' < n) = true := by simpa using hlt'
          have hr := read_in M' k' p (by omega) (by omega) h3 h4
          rw [hc' k'.toNat (by omega) (by omega)] at hr
          have HR := Lib.hid hr
          clear hr
          go_wp2_with fail
          refine Calls.mono HR.out ?_
          rintro e w4 ⟨rfl, K4⟩
          go_wp2_with fail
          go_roundw
          case rel => exact ⟨k' + 1, _, rfl, by omega, by omega, M'.next K4, hc', hx', A'.then K4⟩
          case measure => simp [intOf]; omega
        · have t6 : decide (k' < n) = false := by simpa using hlt'
          have hr := read_in M' 0 p (by decide) (by omega) h3 h4
          rw [show (0 : Int).toNat * 32 + p.toNat = p.toNat by simp, hx'] at hr
          have HR := Lib.hid hr
          clear hr
          go_wp2_with fail
          refine Calls.mono HR.out ?_
          rintro e w4 ⟨rfl, K4⟩
          go_wp2_with fail
          refine Calls.mono (awake02 _) ?_
          rintro e w5 ⟨rfl, K5⟩
          go_wp2
          go_ret
          exact ⟨rfl, ((A'.then K4).then K5).mono (fun q hq e => by omega)⟩
theorem walk_else (n p v x : Int) (w : World) (h : ¬ (2 ≤ n ∧ n ≤ 20 ∧ 0 ≤ p ∧ p < 32)) :
    Calls Try.prog 3 #[.int .i64 n, .int .i64 p, .int .u32 v, .int .u32 x] w fun e w' => e = .returned (.bool true) ∧ Keep nob w w' := by
  have T : (decide (n < 2) || decide (20 < n) || decide (p < 0) || decide (32 ≤ p)) = true := by simp; omega
  rcases Bool.eq_false_or_eq_true (decide (n < 2)) with t1 | t1 <;> rcases Bool.eq_false_or_eq_true (decide (20 < n)) with t2 | t2 <;> rcases Bool.eq_false_or_eq_true (decide (p < 0)) with t3 | t3 <;> rcases Bool.eq_false_or_eq_true (decide (32 ≤ p)) with t4 | t4 <;> simp only [t1, t2, t3, t4] at T <;> first | (exact absurd T (by decide)) | skip
  all_goals
    clear T h
    go_enter Try.func3, Try.ntmps3
    go_wp2_with fail
    refine Calls.mono (awake02 _) ?_
    rintro e w5 ⟨rfl, K5⟩
    go_wp2
    go_ret
    exact ⟨rfl, K5⟩
theorem walk (n p v x : Int) (w : World) (w0 : (Lit.int .i64 n).wf = true) (w1 : (Lit.int .i64 p).wf = true) (w2 : (Lit.int .u32 v).wf = true) (w3 : (Lit.int .u32 x).wf = true) :
    Calls Try.prog 3 #[.int .i64 n, .int .i64 p, .int .u32 v, .int .u32 x] w fun e w' => e = .returned (.bool true) ∧ Keep nob w w' := by
  by_cases h : 2 ≤ n ∧ n ≤ 20 ∧ 0 ≤ p ∧ p < 32
  · exact walk_in n p v x w h.1 h.2.1 h.2.2.1 h.2.2.2 (u32_wf w2) (u32_wf w3)
  · exact walk_else n p v x w h
set_option maxRecDepth 100000 in
theorem lifted (os : Os) (started : os.Started) (H : Type) (enc : TypeId × Value → H) :
    ReturnsInHanded {} Try.checked os 3 .any (Rows.memChainSpec.pre6 enc Try.prog Try.f3 Rows.memChainRow.domain false) (Rows.memChainSpec.post enc Try.prog Try.f3 false true false false) := by
  refine returnsInHanded_of_change (C := Try.checked) Head.own started (by kernel_rfl) Try.func3
    (ChangeSpec.witness6 (enc := enc) (C := Try.checked) false ⟨#[], #[.int .i64 0, .int .i64 0, .int .u32 0, .int .u32 0], []⟩ 8 (by kernel_rfl) (by kernel_rfl) (by kernel_rfl) (by kernel_rfl)) ?_
  intro W base args ds gs before hval0 hW hcnd _
  have hval : ∀ (j : Nat) t v, Try.f3.params[j]? = some t → args[j]? = some v → Value.okWide Try.prog W .any base t v := hval0
  have hW' := hW
  obtain ⟨p, q, hA0, hV, rfl, hfz, hnd⟩ := hW
  have hA : DataW.TrodAll enc Try.prog W 0 (fun _ => true) true Try.f3.params.toList args.toList ds p := hA0
  rw [Try.params3] at hA hval
  obtain ⟨v0, vs0, d0, ds0, p0, q0, hargs, rfl, rfl, h0, r0⟩ := trodAll_cons hA
  obtain ⟨v1, vs1, d1, ds1, p1, q1, rfl, rfl, rfl, h1, r1⟩ := trodAll_cons r0
  obtain ⟨v2, vs2, d2, ds2, p2, q2, rfl, rfl, rfl, h2, r2⟩ := trodAll_cons r1
  obtain ⟨v3, vs3, d3, ds3, p3, q3, rfl, rfl, rfl, h3, r3⟩ := trodAll_cons r2
  obtain ⟨rfl, rfl, rfl⟩ := trodAll_nil r3
  obtain rfl : args = #[v0, v1, v2, v3] := by cases args; simp_all
  obtain ⟨rfl, rfl⟩ := trodVars_none hV
  have k0 := h0
  have lt0 : ∀ x ∈ p0, x.block < W.heap.size := by obtain ⟨m, hm⟩ := k0; exact DataW.trod_lt m _ _ _ hm
  obtain ⟨a0, rfl, rfl, rfl, w0⟩ := open_int Try.underlying3 (hval 0 3 v0 rfl rfl) h0
  have k1 := h1
  have lt1 : ∀ x ∈ p1, x.block < W.heap.size := by obtain ⟨m, hm⟩ := k1; exact DataW.trod_lt m _ _ _ hm
  obtain ⟨a1, rfl, rfl, rfl, w1⟩ := open_int Try.underlying3 (hval 1 3 v1 rfl rfl) h1
  have k2 := h2
  have lt2 : ∀ x ∈ p2, x.block < W.heap.size := by obtain ⟨m, hm⟩ := k2; exact DataW.trod_lt m _ _ _ hm
  obtain ⟨a2, rfl, rfl, rfl, w2⟩ := open_int Try.underlying23 (hval 2 23 v2 rfl rfl) h2
  have k3 := h3
  have lt3 : ∀ x ∈ p3, x.block < W.heap.size := by obtain ⟨m, hm⟩ := k3; exact DataW.trod_lt m _ _ _ hm
  obtain ⟨a3, rfl, rfl, rfl, w3⟩ := open_int Try.underlying23 (hval 3 23 v3 rfl rfl) h3
  clear hA0 hval0
  refine (walk a0 a1 a2 a3 W w0 w1 w2 w3).mono fun e W' ⟨he, kp⟩ => ?_
  subst he
  have bel := kp.below
  exact ⟨_, rfl, _, _, _, [], _, [], hW', trodAll_mk1 (shut_bool Try.underlying4 _), (trodAll_cons_mk (shut_int Try.underlying3 w0) (trodAll_cons_mk (shut_int Try.underlying3 w1) (trodAll_cons_mk (shut_int Try.underlying23 w2) (trodAll_cons_mk (shut_int Try.underlying23 w3) trodAll_mk0)))), rfl, bel.frame _, fun h => by cases h⟩
theorem closed : joinedFacts Try.prog 3 Try.f3 Rows.memChainSpec Rows.memChainRow = true := by
  unfold joinedFacts
  rw [Head.mayEnter, Head.liftsFinal, Head.make]
  kernel_rfl
theorem over : Rows.memChainRow.holds Try.pinned (OpenSpec.ofChange Rows.memChainSpec) :=
  OpenClaim.holds_of_wide 3 Try.f3 rfl rfl rfl rfl rfl rfl rfl ⟨rfl, rfl, rfl, rfl, rfl⟩ rfl rfl rfl rfl rfl (by kernel_rfl) Try.func3 closed
    (of_decide_eq_true (by kernel_rfl)) (by unfold Func.isWrapper; first | (rw [if_pos (by decide +kernel)]; kernel_rfl) | (rw [if_neg (by decide +kernel)]; exact ⟨rfl, rfl⟩))
    (fun os started H enc _ => lifted os started H enc)
theorem proved : Rows.MemChainSaid := over
end Go.Proofs.Ytkkkmaigcnpmeaa.memChain

/- A frame that was not written to has all words 0, whatever was written to others, and a frame that is copied to itself stays. Condition: none beyond the statement's own. -/
import Derived.Test.YtkkkmaigcnpmeaaMemAwake
import Derived.Test.YtkkkmaigcnpmeaaWords
import Derived.Test.YtkkkmaigcnpmeaaOps
import Derived.Test.YtkkkmaigcnpmeaaHead
import Derived.StillTailTactics
namespace Go.Proofs.Ytkkkmaigcnpmeaa.memZero
open Go.ChangeShapes Go.WideShapes Go.ChangeAt Go.RowKit
set_option linter.unusedVariables false
set_option maxRecDepth 100000

/-- Ahead of each write: the own frame is 0. -/
def Inv1 (b f : Nat) (n own : Int) (w : World) (i : Value) (wr : World) : Prop :=
  ∃ (k : Nat) (c : Nat → Int), i = .int .i64 k ∧ k ≤ 100 ∧ MemAt wr b f n.toNat c ∧ (∀ j : Nat, j < 32 → c (own.toNat * 32 + j) = 0) ∧ Keep (since w.heap.size) w wr

def Inv2 (b f B : Nat) (n : Int) (v : Value) (w : World) (i : Value) (wr : World) : Prop :=
  ∃ (k : Int) (c : Nat → Int), i = .int .i64 k ∧ 0 ≤ k ∧ k ≤ n ∧ MemAt wr b f n.toNat c ∧ RowIs B wr v 32 (List.replicate 32 0) ∧ f < B ∧ Keep (since w.heap.size) w wr
set_option maxHeartbeats 1600000 in
theorem walk_in (n own : Int) (v : Value) (l : List Op) (w : World) (h1 : 1 ≤ n) (h2 : n ≤ 20) (hl : l.length ≤ 100) (h3 : 0 ≤ own) (h4 : own < n) (L : OpsAt w v l) :
    Calls Try.prog 4 #[.int .i64 n, v, .int .i64 own] w fun e w' => e = .returned (.bool true) ∧ Keep nob w w' := by
  obtain ⟨a, cap, rfl, hm, hfine, hcells⟩ := L
  have t1 : decide (n < 1) = false := by simpa using h1
  have t2 : decide (20 < n) = false := by simpa using h2
  have t3 : decide ((100 : Int) < l.length) = false := by simp; omega
  have t4 : decide (own < 0) = false := by simpa using h3
  have t5 : decide (n ≤ own) = false := by simpa using h4
  have HF := Lib.hid hfine
  have HC := Lib.hid hcells
  clear hfine hcells
  go_enter Try.func4, Try.ntmps4
  go_wp2_with fail
  refine Calls.mono (new_ok _ n h1 (by omega)) ?_
  rintro e w1 ⟨b, f, rfl, M1, hb, hf, K1⟩
  go_wp2_with fail
  go_loopw [9] (fun i wr => Inv1 b f n own w i wr) (fun i _ => (l.length - intOf i).toNat)
  case atStart => exact ⟨0, _, rfl, by decide, M1, fun _ _ => rfl, K1.to⟩
  case round =>
    obtain ⟨k, c, rfl, hk, M, hc, A⟩ := hrel
    by_cases hlt : k < l.length
    · have hne : l ≠ [] := by intro e; rw [e] at hlt; simp at hlt
      obtain ⟨g, o, rfl, cs⟩ := HC.out hne
      obtain ⟨q0, q1, q2, q3⟩ := cs k l[k] (List.getElem?_eq_getElem hlt)
      have r1 := A.own.some q1 (fun x => x)
      have r2 := A.own.some q2 (fun x => x)
      have r3 := A.own.some q3 (fun x => x)
      have hx := HF.out _ (List.getElem_mem hlt)
      have b1 : ((k : Int) < (l.length : Int)) := by omega
      have A := Lib.hid A
      have hx := Lib.hid hx
      clear q0 q1 q2 q3 cs
      by_cases he : l[k].a = own
      · have t6 : (l[k].a != own) = false := by simp [he]
        have he := Lib.hid he
        go_wp2_with fail
        go_roundw
        case rel => exact ⟨k + 1, c, by go_num, by omega, M, hc, A.out⟩
        case measure => simp [intOf]; omega
      · have t6 : (l[k].a != own) = true := by simpa using he
        have he := Lib.hid he
        go_wp2_with fail
        go_still_tail 16, (by kernel_rfl)
        change wpList _ _ _ _ _ wr.drew
        have M0 := M.next (Keep.drew (Keep.refl _ _))
        have A0 := Lib.hid A.out.drew
        go_wp2_with fail
        refine Calls.mono (write_any M0 l[k].a l[k].b l[k].x hx.out) ?_
        obtain ⟨r, hr⟩ : ∃ r : Int, (if inR n.toNat l[k].a l[k].b then (0 : Int) else 2) = r := ⟨_, rfl⟩
        rw [hr]
        clear hr
        rintro e w3 ⟨rfl, M3, K3⟩
        have A3 := A0.out.into K3 hf
        have hc3 := Lib.hid hc
        clear hc
        go_wp2_with fail
        go_roundw
        case rel =>
          refine ⟨k + 1, _, by go_num, by omega, M3, fun j hj => ?_, A3⟩
          split
          · rename_i hin
            have h1 := hin.1
            have h3 := hin.2.2.1
            have h4 := hin.2.2.2
            have h5 := he.out
            simp only [upd]
            rw [if_neg (by omega)]
            exact hc3.out j hj
          · exact hc3.out j hj
        case measure => simp [intOf]; omega
    · have t6 : decide (k < l.length) = false := by simpa using hlt
      go_wp2_with fail
      have hb1 := Lib.hid M.blt
      have hf1 := Lib.hid M.flt
      refine Calls.mono (page_in M own h3 (by omega)) ?_
      rintro e w3 ⟨v3, rfl, R3, K3⟩
      have hz : words c own.toNat = List.replicate 32 0 := by
        unfold words
        rw [List.eq_replicate_iff]
        refine ⟨by simp, fun x hx => ?_⟩
        obtain ⟨j, hj, rfl⟩ := List.mem_map.1 hx
        exact hc j (List.mem_range.1 hj)
      rw [hz] at R3
      have M3 := M.next K3
      have A3 := A.then K3
      clear M A K3 hc hz
      obtain ⟨B, hB⟩ : ∃ B, B = wr.heap.size := ⟨_, rfl⟩
      rw [← hB] at R3 hf1
      clear hB hb1 HC HF
      have hmk := make32
      go_wp2_with fail
      go_loopw [12, 13, 14, 15, 16, 17] (fun i _ _ _ _ _ wr => Inv2 b f B n v3 w i wr) (fun i _ _ _ _ _ _ => (n - intOf i).toNat)
      case atStart => exact ⟨0, _, rfl, by decide, by omega, M3, R3, hf1.out, A3⟩
      case round =>
        obtain ⟨k, c, rfl, hk0, hk1, M, R, hfB, A⟩ := hrel
        by_cases hlt : k < n
        · have t7 : decide (k < n) = true := by simpa using hlt
          have HB := Lib.hid hfB
          clear hfB
          go_wp2_with fail
          have hf4 := Lib.hid M.flt
          refine Calls.mono (page_in M k hk0 (by omega)) ?_
          rintro e w4 ⟨v4, rfl, R4, K4⟩
          have M4 := M.next K4
          have A4 := A.then K4
          have S4 := R.next K4
          clear M A K4 R
          go_wp2_with fail
          refine Calls.mono (copy_in M4 k k hk0 (by omega) hk0 (by omega)) ?_
          rintro e w5 ⟨rfl, M5, K5⟩
          have A5 := A4.into K5 hf
          have R5 := R4.write K5 hf4.out
          have S5 := S4.write K5 HB.out
          clear M4 A4 K5 R4 S4
          go_wp2_with fail
          refine Calls.mono (page_in M5 k hk0 (by omega)) ?_
          rintro e w6 ⟨v6, rfl, R6, K6⟩
          rw [words_copy] at R6
          have M6 := M5.next K6
          have A6 := A5.then K6
          have T6 := R5.next K6
          have S6 := S5.next K6
          clear M5 A5 K6 R5 S5
          go_wp2_with fail
          refine Calls.mono (same_ok T6.words R6.words (by rw [words_len]; decide)) ?_
          rw [decide_eq_true rfl]
          rintro e w7 ⟨rfl, K7⟩
          have M7 := M6.next K7
          have A7 := A6.then K7
          have S7 := S6.next K7
          clear M6 A6 K7 T6 R6 S6
          go_wp2_with fail
          go_roundw
          case rel => exact ⟨k + 1, _, rfl, by omega, by omega, M7, S7, HB.out, A7⟩
          case measure => simp [intOf]; omega
        · have t7 : decide (k < n) = false := by simpa using hlt
          have P := R.words
          clear R M
          go_wp2_with fail
          have A14 := A.alloc (.cells zeroFrame 23)
          refine Calls.mono (same_ok (P.next ((Keep.refl _ _).alloc (.cells zeroFrame 23))) (wordsAt_zero _ _) (by rw [List.length_replicate]; decide)) ?_
          rw [decide_eq_true rfl]
          rintro e w15 ⟨rfl, K15⟩
          have A15 := A14.then K15
          clear K15 A14 A P
          go_wp2_with fail
          refine Calls.mono (awake02 _) ?_
          rintro e w17 ⟨rfl, K17⟩
          go_wp2
          go_ret
          exact ⟨rfl, (A15.then K17).own⟩
theorem walk_else (n own : Int) (v : Value) (l : List Op) (w : World) (h : ¬ (1 ≤ n ∧ n ≤ 20 ∧ l.length ≤ 100 ∧ 0 ≤ own ∧ own < n)) (L : OpsAt w v l) :
    Calls Try.prog 4 #[.int .i64 n, v, .int .i64 own] w fun e w' => e = .returned (.bool true) ∧ Keep nob w w' := by
  obtain ⟨a, cap, rfl, hm, hfine, hcells⟩ := L
  obtain ⟨T1, t1⟩ : ∃ T, decide (n < 1) = T := ⟨_, rfl⟩
  obtain ⟨T2, t2⟩ : ∃ T, decide (20 < n) = T := ⟨_, rfl⟩
  obtain ⟨T3, t3⟩ : ∃ T, decide ((100 : Int) < l.length) = T := ⟨_, rfl⟩
  obtain ⟨T4, t4⟩ : ∃ T, decide (own < 0) = T := ⟨_, rfl⟩
  obtain ⟨T5, t5⟩ : ∃ T, decide (n ≤ own) = T := ⟨_, rfl⟩
  have HT : (T1 || T2 || T3 || T4 || T5) = true := by
    rw [← t1, ← t2, ← t3, ← t4, ← t5]
    simp only [Bool.or_eq_true, decide_eq_true_eq]
    omega
  clear h hfine hcells
  go_enter Try.func4, Try.ntmps4
  go_wp2_with fail
  all_goals first
    | ((with_reducible refine Calls.mono (awake02 _) ?_); rintro e w16 ⟨rfl, K16⟩; go_wp2; go_ret; exact ⟨rfl, K16⟩)
    | (exfalso; simp_all)
theorem walk (n : Int) (v : Value) (l : List Op) (own : Int) (w : World) (w0 : (Lit.int .i64 n).wf = true) (w1 : OpsAt w v l) (w2 : (Lit.int .i64 own).wf = true) :
    Calls Try.prog 4 #[.int .i64 n, v, .int .i64 own] w fun e w' => e = .returned (.bool true) ∧ Keep nob w w' := by
  by_cases h : 1 ≤ n ∧ n ≤ 20 ∧ l.length ≤ 100 ∧ 0 ≤ own ∧ own < n
  · obtain ⟨h1, h2, h3, h4, h5⟩ := h
    exact walk_in n own v l w h1 h2 h3 h4 h5 w1
  · exact walk_else n own v l w h w1
set_option maxRecDepth 100000 in
theorem lifted (os : Os) (started : os.Started) (H : Type) (enc : TypeId × Value → H) :
    ReturnsInHanded {} Try.checked os 4 .any (Rows.memZeroSpec.pre6 enc Try.prog Try.f4 Rows.memZeroRow.domain false) (Rows.memZeroSpec.post enc Try.prog Try.f4 false true false false) := by
  refine returnsInHanded_of_change (C := Try.checked) Head.own started (by kernel_rfl) Try.func4
    (ChangeSpec.witness6 (enc := enc) (C := Try.checked) false ⟨#[], #[.int .i64 0, .slice none 0 0, .int .i64 0], []⟩ 8 (by kernel_rfl) (by kernel_rfl) (by kernel_rfl) (by kernel_rfl)) ?_
  intro W base args ds gs before hval0 hW hcnd _
  have hval : ∀ (j : Nat) t v, Try.f4.params[j]? = some t → args[j]? = some v → Value.okWide Try.prog W .any base t v := hval0
  have hW' := hW
  obtain ⟨p, q, hA0, hV, rfl, hfz, hnd⟩ := hW
  have hA : DataW.TrodAll enc Try.prog W 0 (fun _ => true) true Try.f4.params.toList args.toList ds p := hA0
  rw [Try.params4] at hA hval
  obtain ⟨v0, vs0, d0, ds0, p0, q0, hargs, rfl, rfl, h0, r0⟩ := trodAll_cons hA
  obtain ⟨v1, vs1, d1, ds1, p1, q1, rfl, rfl, rfl, h1, r1⟩ := trodAll_cons r0
  obtain ⟨v2, vs2, d2, ds2, p2, q2, rfl, rfl, rfl, h2, r2⟩ := trodAll_cons r1
  obtain ⟨rfl, rfl, rfl⟩ := trodAll_nil r2
  obtain rfl : args = #[v0, v1, v2] := by cases args; simp_all
  obtain ⟨rfl, rfl⟩ := trodVars_none hV
  have k0 := h0
  have lt0 : ∀ x ∈ p0, x.block < W.heap.size := by obtain ⟨m, hm⟩ := k0; exact DataW.trod_lt m _ _ _ hm
  obtain ⟨a0, rfl, rfl, rfl, w0⟩ := open_int Try.underlying3 (hval 0 3 v0 rfl rfl) h0
  have k1 := h1
  have lt1 : ∀ x ∈ p1, x.block < W.heap.size := by obtain ⟨m, hm⟩ := k1; exact DataW.trod_lt m _ _ _ hm
  obtain ⟨a1, w1⟩ := open_ops (hval 1 34 v1 rfl rfl) h1
  have k2 := h2
  have lt2 : ∀ x ∈ p2, x.block < W.heap.size := by obtain ⟨m, hm⟩ := k2; exact DataW.trod_lt m _ _ _ hm
  obtain ⟨a2, rfl, rfl, rfl, w2⟩ := open_int Try.underlying3 (hval 2 3 v2 rfl rfl) h2
  clear hA0 hval0
  refine (walk a0 v1 a1 a2 W w0 w1 w2).mono fun e W' ⟨he, kp⟩ => ?_
  subst he
  have bel := kp.below
  exact ⟨_, rfl, _, _, _, [], _, [], hW', trodAll_mk1 (shut_bool Try.underlying4 _), (trodAll_cons_mk (shut_int Try.underlying3 w0) (trodAll_cons_mk (Below.trod Head.laidOut (by kernel_rfl) (of_decide_eq_true (by kernel_rfl)) k1 bel lt1) (trodAll_cons_mk (shut_int Try.underlying3 w2) trodAll_mk0))), rfl, bel.frame _, fun h => by cases h⟩
theorem closed : joinedFacts Try.prog 4 Try.f4 Rows.memZeroSpec Rows.memZeroRow = true := by
  unfold joinedFacts
  rw [Head.mayEnter, Head.liftsFinal, Head.make]
  kernel_rfl
theorem over : Rows.memZeroRow.holds Try.pinned (OpenSpec.ofChange Rows.memZeroSpec) :=
  OpenClaim.holds_of_wide 4 Try.f4 rfl rfl rfl rfl rfl rfl rfl ⟨rfl, rfl, rfl, rfl, rfl⟩ rfl rfl rfl rfl rfl (by kernel_rfl) Try.func4 closed
    (of_decide_eq_true (by kernel_rfl)) (by unfold Func.isWrapper; first | (rw [if_pos (by decide +kernel)]; kernel_rfl) | (rw [if_neg (by decide +kernel)]; exact ⟨rfl, rfl⟩))
    (fun os started H enc _ => lifted os started H enc)
theorem proved : Rows.MemZeroSaid := over
end Go.Proofs.Ytkkkmaigcnpmeaa.memZero

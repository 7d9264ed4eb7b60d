/- A memory of any size, under any script of calls, answers as the document says, and has what it should in the end. Condition: none beyond the statement's own. -/
import Derived.Test.YtkkkmaigcnpmeaaPlay3
import Derived.Test.YtkkkmaigcnpmeaaMemAwake
import Derived.Test.YtkkkmaigcnpmeaaHead
namespace Go.Proofs.Ytkkkmaigcnpmeaa.memPlays
open Go.ChangeShapes Go.WideShapes Go.ChangeAt Go.RowKit
set_option linter.unusedVariables false
set_option maxRecDepth 100000

def Inv (b f g pw n : Nat) (w : World) (i : Value) (wr : World) : Prop :=
  ∃ (k : Nat) (c : Nat → Int), i = .int .i64 k ∧ k ≤ 1024 ∧ Both wr b f g pw n c ∧ Keep (since w.heap.size) w wr
def Inv2 (b f g pw n : Nat) (w : World) (i : Value) (wr : World) : Prop :=
  ∃ (k : Nat) (c : Nat → Int), i = .int .i64 k ∧ k ≤ n ∧ Both wr b f g pw n c ∧ Keep (since w.heap.size) w wr
set_option maxHeartbeats 1600000 in
theorem walk_in (n : Nat) (v : Value) (l : List Op) (w : World) (h1 : 1 ≤ n) (h2 : n ≤ 40) (hl : l.length ≤ 300) (L : OpsAt w v l) :
    Calls Try.prog 11 #[.int .i64 n, v] w fun e w' => e = .returned (.bool true) ∧ Keep nob w w' := by
  obtain ⟨a, cap, rfl, hm, hfine, hcells⟩ := L
  have t2 : decide ((40 : Int) < n) = false := by simp; omega
  have t3 : decide ((300 : Int) < l.length) = false := by simp; omega
  have HF := Lib.hid hfine
  have HC := Lib.hid hcells
  clear hfine hcells
  go_enter Try.func11, Try.ntmps11
  go_wp2_with fail
  refine Calls.mono (new_ok _ n (by omega) (by omega)) ?_
  rintro e w1 ⟨b, f, rfl, M1, hb, hf, K1⟩
  rw [Int.toNat_natCast] at M1
  go_wp2_with fail
  refine Calls.mono (refnew_in _ n h1 (by omega)) ?_
  rintro e w2 ⟨g, rfl, R2, hg, K2⟩
  have hrv : refV g n = .slice (some ⟨g, 0, none⟩) (n * 32) (n * 32) := rfl
  rw [hrv]
  have hbf := M1.ne
  have hb1 := M1.blt
  have hf1 := M1.flt
  have hg1 := R2.glt
  have z1 := K1.size
  have z2 := K2.size
  obtain ⟨hp, hB⟩ : ∃ pw, pw = w2.heap.size := ⟨_, rfl⟩
  have K : Keep nob w2 (w2.alloc (.cells #[.slice (some ⟨g, 0, none⟩) (n * 32) (n * 32)] 58)) := (Keep.refl _ _).alloc _
  have B0 : Both (w2.alloc (.cells #[.slice (some ⟨g, 0, none⟩) (n * 32) (n * 32)] 58)) b f g w2.heap.size n (fun _ => 0) :=
    ⟨M1.next (K2.then K), R2.next K, by rw [World.cell?_alloc_new]; rfl, by omega, by omega, by omega, by omega⟩
  have A0 : Keep (since w.heap.size) w (w2.alloc (.cells #[.slice (some ⟨g, 0, none⟩) (n * 32) (n * 32)] 58)) := ((K1.then K2).then K).nob
  have hsf := Lib.hid (show w.heap.size ≤ f from hf)
  have hsg := Lib.hid (show w.heap.size ≤ g by omega)
  have hN := Lib.hid h2
  clear K K1 K2 M1 R2 hB hb1 hf1 hg1 z1 z2 hbf hb hf hg hrv
  go_wp2_with fail
  obtain ⟨pw, hpw⟩ : ∃ pw, pw = w2.heap.size := ⟨_, rfl⟩
  obtain ⟨W, hW⟩ : ∃ W, W = w2.alloc (.cells #[.slice (some ⟨g, 0, none⟩) (n * 32) (n * 32)] 58) := ⟨_, rfl⟩
  rw [← hpw, ← hW] at B0
  rw [← hW] at A0
  rw [← hW, ← hpw]
  clear hW hpw
  go_loopw [9] (fun i wr => Inv b f g pw n w i wr) (fun i _ => (l.length - intOf i).toNat)
  case atStart => exact ⟨0, _, rfl, by decide, B0, A0⟩
  case round =>
    clear B0 A0
    obtain ⟨k, c, rfl, hk, B, A⟩ := hrel
    by_cases hlt : k < l.length
    · have hne : l ≠ [] := by intro e; rw [e] at hlt; simp at hlt
      obtain ⟨gg, o, rfl, cs⟩ := HC.out hne
      obtain ⟨q0, q1, q2, q3⟩ := cs k l[k] (List.getElem?_eq_getElem hlt)
      have r0 := A.own.some q0 (fun x => x)
      have r1 := A.own.some q1 (fun x => x)
      have r2 := A.own.some q2 (fun x => x)
      have r3 := A.own.some q3 (fun x => x)
      have hx := HF.out _ (List.getElem_mem hlt)
      have b1 : ((k : Int) < (l.length : Int)) := by omega
      have A := Lib.hid A
      have B := Lib.hid B
      have hx := Lib.hid hx
      have PL := Lib.hid (play_ok B.out l[k] hx.out)
      clear q0 q1 q2 q3 cs
      go_wp2_with fail
      refine Calls.mono PL.out ?_
      rintro r w3 ⟨rfl, c3, B3, K3⟩
      have A3 := A.out.trans K3 (fun q hq e => by rcases e with e | e <;> (subst e; first | exact hsf.out | exact hsg.out))
      clear PL A B r0 r1 r2 r3 K3
      go_wp2_with fail
      refine Calls.mono (frames_at B3.m) ?_
      rintro r w4 ⟨rfl, rfl⟩
      have B3 := Lib.hid B3
      have A3 := Lib.hid A3
      go_wp2_with fail
      go_roundw
      case rel => exact ⟨k + 1, c3, by go_num, by omega, B3.out, A3.out⟩
      case measure => simp [intOf]; omega
    · have t6 : decide (k < l.length) = false := by simpa using hlt
      have B := Lib.hid B
      have A := Lib.hid A
      clear hlt HC HF
      go_wp2_with fail
      go_loopw [10] (fun i wr => Inv2 b f g pw n w i wr) (fun i _ => (n - intOf i).toNat)
      case atStart => exact ⟨0, _, rfl, by omega, B.out, A.out⟩
      case round =>
        clear B A
        obtain ⟨k2, c2, rfl, hk2, B, A⟩ := hrel
        by_cases hlt : k2 < n
        · have b1 : ((k2 : Int) < (n : Int)) := by omega
          have PL := Lib.hid (play_ok B ⟨5, k2, 0, 0⟩ (show (0 : Int) ≤ 0 ∧ (0 : Int) < 4294967296 by decide))
          have A := Lib.hid A
          have B := Lib.hid B
          go_wp2_with fail
          refine Calls.mono PL.out ?_
          rintro r w3 ⟨rfl, c3, B3, K3⟩
          have A3 := Lib.hid (A.out.trans K3 (fun q hq e => by rcases e with e | e <;> (subst e; first | exact hsf.out | exact hsg.out)))
          have B3 := Lib.hid B3
          clear PL A B K3
          go_wp2_with fail
          go_roundw
          case rel => exact ⟨k2 + 1, c3, by go_num, by omega, B3.out, A3.out⟩
          case measure => simp [intOf]; omega
        · have t7 : decide (k2 < n) = false := by simpa using hlt
          have A := Lib.hid A
          clear hlt B
          go_wp2_with fail
          refine Calls.mono (awake02 _) ?_
          rintro e w17 ⟨rfl, K17⟩
          go_wp2
          go_ret
          exact ⟨rfl, (A.out.then K17).own⟩
theorem walk_refused (n : Int) (v : Value) (l : List Op) (w : World) (h : ¬ (1 ≤ n ∧ n ≤ 1024)) (hl : l.length ≤ 300) (L : OpsAt w v l) :
    Calls Try.prog 11 #[.int .i64 n, v] w fun e w' => e = .returned (.bool true) ∧ Keep nob w w' := by
  obtain ⟨a, cap, rfl, hm, hfine, hcells⟩ := L
  obtain ⟨T2, t2⟩ : ∃ T, decide (40 < n) = T := ⟨_, rfl⟩
  obtain ⟨T1, t1⟩ : ∃ T, decide (n ≤ 1024) = T := ⟨_, rfl⟩
  have HT : (T2 && T1) = false := by
    rw [← t1, ← t2]
    simp only [Bool.and_eq_false_iff, decide_eq_false_iff_not]
    omega
  have t3 : decide ((300 : Int) < l.length) = false := by simp; omega
  have H := Lib.hid h
  clear hfine hcells h
  go_enter Try.func11, Try.ntmps11
  go_wp2_with fail
  all_goals first
    | (exfalso; simp_all; done)
    | ((with_reducible refine Calls.mono (new_out _ n H.out) ?_)
       rintro e w1 ⟨rfl, rfl⟩
       go_wp2_with fail
       refine Calls.mono (refnew_out _ n H.out) ?_
       rintro e w2 ⟨rfl, K⟩
       go_wp2_with fail
       refine Calls.mono (awake02 _) ?_
       rintro e w17 ⟨rfl, K17⟩
       go_wp2
       go_ret
       exact ⟨rfl, (K.alloc _).then K17⟩)
theorem walk_else (n : Int) (v : Value) (l : List Op) (w : World) (h : 300 < l.length ∨ (40 < n ∧ n ≤ 1024)) (L : OpsAt w v l) :
    Calls Try.prog 11 #[.int .i64 n, v] w fun e w' => e = .returned (.bool true) ∧ Keep nob w w' := by
  obtain ⟨a, cap, rfl, hm, hfine, hcells⟩ := L
  obtain ⟨T1, t1⟩ : ∃ T, decide ((300 : Int) < l.length) = T := ⟨_, rfl⟩
  obtain ⟨T2, t2⟩ : ∃ T, decide (40 < n) = T := ⟨_, rfl⟩
  obtain ⟨T3, t3⟩ : ∃ T, decide (n ≤ 1024) = T := ⟨_, rfl⟩
  have HT : (T1 || T2 && T3) = true := by
    rw [← t1, ← t2, ← t3]
    simp only [Bool.or_eq_true, Bool.and_eq_true, decide_eq_true_eq]
    omega
  clear h hfine hcells
  go_enter Try.func11, Try.ntmps11
  go_wp2_with fail
  all_goals first
    | ((with_reducible refine Calls.mono (awake02 _) ?_); rintro e w16 ⟨rfl, K16⟩; go_wp2; go_ret; exact ⟨rfl, K16⟩)
    | (exfalso; simp_all)
theorem walk (n : Int) (v : Value) (l : List Op) (w : World) (w0 : (Lit.int .i64 n).wf = true) (w1 : OpsAt w v l) :
    Calls Try.prog 11 #[.int .i64 n, v] w fun e w' => e = .returned (.bool true) ∧ Keep nob w w' := by
  by_cases hl : 300 < l.length
  · exact walk_else n v l w (Or.inl hl) w1
  by_cases h : 40 < n ∧ n ≤ 1024
  · exact walk_else n v l w (Or.inr h) w1
  by_cases h2 : 1 ≤ n ∧ n ≤ 1024
  · obtain ⟨m, rfl⟩ : ∃ m : Nat, n = m := ⟨n.toNat, by omega⟩
    exact walk_in m v l w (by omega) (by omega) (by omega) w1
  · exact walk_refused n v l w h2 (by omega) w1
set_option maxRecDepth 100000 in
theorem lifted (os : Os) (started : os.Started) (H : Type) (enc : TypeId × Value → H) :
    ReturnsInHanded {} Try.checked os 11 .any (Rows.memPlaysSpec.pre6 enc Try.prog Try.f11 Rows.memPlaysRow.domain false) (Rows.memPlaysSpec.post enc Try.prog Try.f11 false true false false) := by
  refine returnsInHanded_of_change (C := Try.checked) Head.own started (by kernel_rfl) Try.func11
    (ChangeSpec.witness6 (enc := enc) (C := Try.checked) false ⟨#[], #[.int .i64 0, .slice none 0 0], []⟩ 8 (by kernel_rfl) (by kernel_rfl) (by kernel_rfl) (by kernel_rfl)) ?_
  intro W base args ds gs before hval0 hW hcnd _
  have hval : ∀ (j : Nat) t v, Try.f11.params[j]? = some t → args[j]? = some v → Value.okWide Try.prog W .any base t v := hval0
  have hW' := hW
  obtain ⟨p, q, hA0, hV, rfl, hfz, hnd⟩ := hW
  have hA : DataW.TrodAll enc Try.prog W 0 (fun _ => true) true Try.f11.params.toList args.toList ds p := hA0
  rw [Try.params11] at hA hval
  obtain ⟨v0, vs0, d0, ds0, p0, q0, hargs, rfl, rfl, h0, r0⟩ := trodAll_cons hA
  obtain ⟨v1, vs1, d1, ds1, p1, q1, rfl, rfl, rfl, h1, r1⟩ := trodAll_cons r0
  obtain ⟨rfl, rfl, rfl⟩ := trodAll_nil r1
  obtain rfl : args = #[v0, v1] := by cases args; simp_all
  obtain ⟨rfl, rfl⟩ := trodVars_none hV
  have k0 := h0
  have lt0 : ∀ x ∈ p0, x.block < W.heap.size := by obtain ⟨m, hm⟩ := k0; exact DataW.trod_lt m _ _ _ hm
  obtain ⟨a0, rfl, rfl, rfl, w0⟩ := open_int Try.underlying3 (hval 0 3 v0 rfl rfl) h0
  have k1 := h1
  have lt1 : ∀ x ∈ p1, x.block < W.heap.size := by obtain ⟨m, hm⟩ := k1; exact DataW.trod_lt m _ _ _ hm
  obtain ⟨a1, w1⟩ := open_ops (hval 1 34 v1 rfl rfl) h1
  clear hA0 hval0
  refine (walk a0 v1 a1 W w0 w1).mono fun e W' ⟨he, kp⟩ => ?_
  subst he
  have bel := kp.below
  exact ⟨_, rfl, _, _, _, [], _, [], hW', trodAll_mk1 (shut_bool Try.underlying4 _), (trodAll_cons_mk (shut_int Try.underlying3 w0) (trodAll_cons_mk (Below.trod Head.laidOut (by kernel_rfl) (of_decide_eq_true (by kernel_rfl)) k1 bel lt1) trodAll_mk0)), rfl, bel.frame _, fun h => by cases h⟩
theorem closed : joinedFacts Try.prog 11 Try.f11 Rows.memPlaysSpec Rows.memPlaysRow = true := by
  unfold joinedFacts
  rw [Head.mayEnter, Head.liftsFinal, Head.make]
  kernel_rfl
theorem over : Rows.memPlaysRow.holds Try.pinned (OpenSpec.ofChange Rows.memPlaysSpec) :=
  OpenClaim.holds_of_wide 11 Try.f11 rfl rfl rfl rfl rfl rfl rfl ⟨rfl, rfl, rfl, rfl, rfl⟩ rfl rfl rfl rfl rfl (by kernel_rfl) Try.func11 closed
    (of_decide_eq_true (by kernel_rfl)) (by unfold Func.isWrapper; first | (rw [if_pos (by decide +kernel)]; kernel_rfl) | (rw [if_neg (by decide +kernel)]; exact ⟨rfl, rfl⟩))
    (fun os started H enc _ => lifted os started H enc)
theorem proved : Rows.MemPlaysSaid := over
end Go.Proofs.Ytkkkmaigcnpmeaa.memPlays

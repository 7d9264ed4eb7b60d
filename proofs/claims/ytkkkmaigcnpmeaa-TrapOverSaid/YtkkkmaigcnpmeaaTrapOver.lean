/- Of what is saved in one slot, one behind the other, the last one counts, and frames are apart. Condition: 2 to 10 frames, at most 30 saves. -/
import Derived.Test.YtkkkmaigcnpmeaaTrapV
import Derived.Deep.QuietTactic
import Derived.BigQuiet
namespace Go.Proofs.Ytkkkmaigcnpmeaa.trapOver
open Go.ChangeShapes Go.WideShapes Go.ChangeAt Go.RowKit
set_option linter.unusedVariables false
set_option maxRecDepth 100000
def OvI (w : World) (b f n bo : Nat) (u : Trap) (v : Value) (wr : World) : Prop :=
  ∃ (k : Nat) (c : Nat → Int), v = .int .i64 k ∧ MemAt wr b f n c ∧ slotL c 0 1 = u.list ∧ slotL c 0 2 = Trap.zero.list ∧ TrapIn wr bo 0 u ∧ Keep nob w wr
set_option maxHeartbeats 1600000 in
theorem walk_in (n : Nat) (v : Value) (l : List Trap) (u : Trap) (w : World) (n1 : 2 ≤ n) (n2 : n ≤ 10) (hl : l.length ≤ 30) (L : TrapsAt w v l) (fu : u.fine) :
    Calls Try.prog 21 #[.int .i64 n, v, .agg u.cells] w fun e w' => e = .returned (.bool true) ∧ Keep nob w w' := by
  have a1 : decide ((n : Int) < 2) = false := by simp; omega
  have a2 : decide ((10 : Int) < n) = false := by simp; omega
  obtain ⟨a, cap, rfl, hm, hf, hc⟩ := L
  have a3 : decide ((30 : Int) < l.length) = false := by simp; omega
  have HN := Lib.hid n1
  have FU := Lib.hid fu
  have FL := Lib.hid hf
  have HC := Lib.hid hc
  clear hf hc fu
  have B : w.heap.size < (w.alloc (.cells u.cells 76)).heap.size := by rw [World.size_alloc]; exact Nat.lt_succ_self _
  have TU := TrapIn.new w u 76
  have KU : Keep nob w (w.alloc (.cells u.cells 76)) := (Keep.refl _ _).alloc _
  have TU := Lib.hid TU
  have KU := Lib.hid KU
  clear B
  go_enter Try.func21, Try.ntmps21
  go_wp2_with fail
  refine Calls.mono (new_in _ n (by omega) (by omega)) ?_
  rintro e w1 ⟨rfl, M1, K1⟩
  simp only [World.size_alloc] at M1
  have T1 := Lib.hid (TU.out.next K1)
  have A1 := Lib.hid (KU.out.then K1)
  clear K1 TU KU
  go_wp2_with ((with_reducible refine wpList_load_trap (.tmp 5) _ _ _ T1.out ?_ rfl rfl ?_); · rfl)
  refine Calls.mono (save_in M1 0 1 u FU.out ⟨by decide, by omega, by decide, by decide⟩) ?_
  rintro r w2 ⟨rfl, M2, K2⟩
  have T2 := Lib.hid (T1.out.keep K2 (by unfold only; omega))
  have A2 := Lib.hid (A1.out.trans K2 (fun q hq e => by have e : q = w.heap.size + 1 := e; omega))
  have E1 : Hid (slotL (span (fun _ => 0) ((0 : Int).toNat * 32 + (1 : Int).toNat * 10) u.list 10) 0 1 = u.list) := Lib.hid (slot_same _ 0 1 _ u.list_len (by decide) (by decide))
  have E2 : Hid (slotL (span (fun _ => 0) ((0 : Int).toNat * 32 + (1 : Int).toNat * 10) u.list 10) 0 2 = Trap.zero.list) :=
    Lib.hid ((slot_other _ 0 1 0 2 _ (by decide) (by decide) (by decide) (by decide) (by decide) (by decide) (Or.inr (by decide))).trans (slot_zero 0 2 (by decide) (by decide)))
  obtain ⟨c, hc⟩ : ∃ c, c = span (fun _ => 0) ((0 : Int).toNat * 32 + (1 : Int).toNat * 10) u.list 10 := ⟨_, rfl⟩
  rw [← hc] at M2 E1 E2
  have M2 := Lib.hid M2
  clear hc K2 T1 A1 M1
  go_wp2_with fail
  go_loopw [9] (fun i' wr => OvI w (w.heap.size + 1 + 1) (w.heap.size + 1) n w.heap.size u i' wr) (fun i' _ => (l.length - intOf i').toNat)
  case atStart => exact ⟨0, c, rfl, M2.out, E1.out, E2.out, T2.out, A2.out⟩
  case round =>
    clear M2 E1 E2 T2 A2
    obtain ⟨k, c, rfl, M, E1, E2, T, A⟩ := hrel
    have E1 := Lib.hid E1
    have E2 := Lib.hid E2
    have T := Lib.hid T
    have A := Lib.hid A
    by_cases hlt : k < l.length
    · have hne : l ≠ [] := by intro e; rw [e] at hlt; simp at hlt
      obtain ⟨g, o, rfl, cs⟩ := HC.out hne
      have b1 : ((k : Int) < (l.length : Int)) := by omega
      have ft := Lib.hid (FL.out _ (List.getElem_mem hlt))
      obtain ⟨t, ht⟩ : ∃ t, t = l[k] := ⟨_, rfl⟩
      rw [← ht] at ft
      have X : Hid (TrapIn w g (o + k * 10) t) := Lib.hid (fun j x hx => by
        have := cs k l[k] (List.getElem?_eq_getElem hlt) j x (by rw [← ht]; exact hx)
        rw [← Nat.add_assoc] at this
        exact this)
      have hgl := Lib.hid X.out.lt
      have X1 := Lib.hid (X.out.next A.out)
      have SV := Lib.hid (save_in M (n - 1) 1 t ft.out ⟨by omega, by omega, by decide, by decide⟩)
      clear M cs ht hne
      go_wp2_with ((with_reducible refine wpList_load_trap (.tmp 56) _ _ _ X1.out ?_ rfl rfl ?_); · rfl)
      refine Calls.mono SV.out ?_
      rintro r w3 ⟨rfl, M3, K3⟩
      have hx1 := hgl.out
      have X3 := Lib.hid (X1.out.keep K3 (by unfold only; omega))
      have T3 := Lib.hid (T.out.keep K3 (by unfold only; omega))
      have A3 := Lib.hid (A.out.trans K3 (fun q hq e => by have e : q = w.heap.size + 1 := e; omega))
      have hn1 : ((n : Int) - 1) ≠ 0 := by omega
      have E3 := Lib.hid ((slot_other c (n - 1) 1 0 1 t.list (by decide) (by decide) (by decide) (by decide) (by omega) (by decide) (Or.inl hn1)).trans E1.out)
      have E4 := Lib.hid ((slot_other c (n - 1) 1 0 2 t.list (by decide) (by decide) (by decide) (by decide) (by omega) (by decide) (Or.inl hn1)).trans E2.out)
      have E5 := Lib.hid (slot_same c (n - 1) 1 t.list t.list_len (by decide) (by decide))
      obtain ⟨cm, hc3⟩ : ∃ cm, cm = span c ((n - 1 : Int).toNat * 32 + (1 : Int).toNat * 10) t.list 10 := ⟨_, rfl⟩
      rw [← hc3] at M3 E3 E4 E5
      clear hc3 K3 SV X1 T A E1 E2 hn1 hx1 X hgl FL HC
      have LD := Lib.hid (load_t M3 (n - 1) 1 ⟨by omega, by omega, by decide, by decide⟩ t E5.out)
      go_wp2_with fail
      refine Calls.mono LD.out ?_
      rintro r w4 ⟨rfl, K4⟩
      have KK : Keep nob w3 (w4.alloc (.cells t.cells 76)) := K4.alloc _
      have X5 := X3.out.next KK
      have T5 := Lib.hid (T3.out.next KK)
      have A5 := Lib.hid (A3.out.then KK)
      have M5 := Lib.hid (M3.next KK)
      clear LD K4 KK X3 T3 A3 M3 E5 ft
      go_wp2_with ((with_reducible refine wpList_store_trapZ (.tmp 10) (.tmp 65) t ?_ rfl rfl rfl ?_); · rfl)
      obtain ⟨x0, x1, x2, x3, x4, x5, x6, x7, x8, x9⟩ := t
      unfold Trap.cells at X5 ⊢
      have c0 : (w4.alloc (.cells #[.int .u32 x0, .int .u32 x1, .int .u32 x2, .int .u32 x3, .int .u32 x4, .int .u32 x5, .int .u32 x6, .int .u32 x7, .int .u32 x8, .int .u32 x9] 76)).cell? ⟨g, o + k * 10, none⟩ = some (.int .u32 x0) := X5 0 _ rfl
      have c1 : (w4.alloc (.cells #[.int .u32 x0, .int .u32 x1, .int .u32 x2, .int .u32 x3, .int .u32 x4, .int .u32 x5, .int .u32 x6, .int .u32 x7, .int .u32 x8, .int .u32 x9] 76)).cell? ⟨g, o + k * 10 + 1, none⟩ = some (.int .u32 x1) := X5 1 _ rfl
      have c2 : (w4.alloc (.cells #[.int .u32 x0, .int .u32 x1, .int .u32 x2, .int .u32 x3, .int .u32 x4, .int .u32 x5, .int .u32 x6, .int .u32 x7, .int .u32 x8, .int .u32 x9] 76)).cell? ⟨g, o + k * 10 + 2, none⟩ = some (.int .u32 x2) := X5 2 _ rfl
      have c3 : (w4.alloc (.cells #[.int .u32 x0, .int .u32 x1, .int .u32 x2, .int .u32 x3, .int .u32 x4, .int .u32 x5, .int .u32 x6, .int .u32 x7, .int .u32 x8, .int .u32 x9] 76)).cell? ⟨g, o + k * 10 + 3, none⟩ = some (.int .u32 x3) := X5 3 _ rfl
      have c4 : (w4.alloc (.cells #[.int .u32 x0, .int .u32 x1, .int .u32 x2, .int .u32 x3, .int .u32 x4, .int .u32 x5, .int .u32 x6, .int .u32 x7, .int .u32 x8, .int .u32 x9] 76)).cell? ⟨g, o + k * 10 + 4, none⟩ = some (.int .u32 x4) := X5 4 _ rfl
      have c5 : (w4.alloc (.cells #[.int .u32 x0, .int .u32 x1, .int .u32 x2, .int .u32 x3, .int .u32 x4, .int .u32 x5, .int .u32 x6, .int .u32 x7, .int .u32 x8, .int .u32 x9] 76)).cell? ⟨g, o + k * 10 + 5, none⟩ = some (.int .u32 x5) := X5 5 _ rfl
      have c6 : (w4.alloc (.cells #[.int .u32 x0, .int .u32 x1, .int .u32 x2, .int .u32 x3, .int .u32 x4, .int .u32 x5, .int .u32 x6, .int .u32 x7, .int .u32 x8, .int .u32 x9] 76)).cell? ⟨g, o + k * 10 + 6, none⟩ = some (.int .u32 x6) := X5 6 _ rfl
      have c7 : (w4.alloc (.cells #[.int .u32 x0, .int .u32 x1, .int .u32 x2, .int .u32 x3, .int .u32 x4, .int .u32 x5, .int .u32 x6, .int .u32 x7, .int .u32 x8, .int .u32 x9] 76)).cell? ⟨g, o + k * 10 + 7, none⟩ = some (.int .u32 x7) := X5 7 _ rfl
      have c8 : (w4.alloc (.cells #[.int .u32 x0, .int .u32 x1, .int .u32 x2, .int .u32 x3, .int .u32 x4, .int .u32 x5, .int .u32 x6, .int .u32 x7, .int .u32 x8, .int .u32 x9] 76)).cell? ⟨g, o + k * 10 + 8, none⟩ = some (.int .u32 x8) := X5 8 _ rfl
      have c9 : (w4.alloc (.cells #[.int .u32 x0, .int .u32 x1, .int .u32 x2, .int .u32 x3, .int .u32 x4, .int .u32 x5, .int .u32 x6, .int .u32 x7, .int .u32 x8, .int .u32 x9] 76)).cell? ⟨g, o + k * 10 + 9, none⟩ = some (.int .u32 x9) := X5 9 _ rfl
      have hneq := neTrap
      clear X5
      go_quiet (fail)
      go_wp2_with fail
      go_roundw
      case rel =>
        (repeat apply Exists.intro)
        refine ⟨?_, rfl⟩
        exact ⟨k + 1, cm, by go_num, M5.out.next (Keep.drewN (Keep.refl _ _) _), E3.out, E4.out, T5.out.keep (Keep.drewN (Keep.refl nob _) _) (fun x => x), A5.out.drewN _⟩
      case measure => simp [intOf]; omega
    · have MM := Lib.hid M
      have LD1 := Lib.hid (load_t M 0 1 ⟨by decide, by omega, by decide, by decide⟩ u E1.out)
      have hn0 := Lib.hid (show inS n 0 2 from ⟨by decide, by omega, by decide, by decide⟩)
      have t7 : decide (k < l.length) = false := by simpa using hlt
      clear M hlt HC FL
      go_wp2_with fail
      refine Calls.mono LD1.out ?_
      rintro r w4 ⟨rfl, K4⟩
      have KK : Keep nob wr (w4.alloc (.cells u.cells 76)) := K4.alloc _
      have T5 := Lib.hid (T.out.next KK)
      have A5 := Lib.hid (A.out.then KK)
      have M5 := MM.out.next KK
      have Y5 := Lib.hid (TrapIn.new w4 u 76)
      have LD2 := Lib.hid (load_t M5 0 2 hn0.out Trap.zero E2.out)
      clear LD1 K4 KK T A M5 MM
      go_wp2_with ((with_reducible refine wpList_store_trapZ (.tmp 12) (.tmp 80) u ?_ rfl rfl rfl ?_); · rfl)
      refine Calls.mono LD2.out ?_
      rintro r w6 ⟨rfl, K6⟩
      have KK : Keep nob (w4.alloc (.cells u.cells 76)) (w6.alloc (.cells Trap.zero.cells 76)) := K6.alloc _
      have T7 := Lib.hid (T5.out.next KK)
      have Y7 := Lib.hid (Y5.out.next KK)
      have A7 := Lib.hid (A5.out.then KK)
      have Z7 := Lib.hid (TrapIn.new w6 Trap.zero 76)
      have heq := eqTrapS
      have heqz := eqTrapZ
      clear LD2 K6 KK T5 A5 Y5
      go_wp2_with (first | ((with_reducible refine wpList_store_trapZ (.tmp 14) (.tmp 85) Trap.zero ?_ rfl rfl rfl ?_); · rfl) | ((with_reducible refine wpList_load_trap (.tmp 12) _ _ _ Y7.out ?_ rfl rfl ?_); · rfl) | ((with_reducible refine wpList_load_trap (.tmp 5) _ _ _ T7.out ?_ rfl rfl ?_); · rfl) | ((with_reducible refine wpList_load_trap (.tmp 14) _ _ _ Z7.out ?_ rfl rfl ?_); · rfl))
      refine Calls.mono (awake04 _) ?_
      rintro r w9 ⟨rfl, K9⟩
      go_wp2_with fail
      go_ret
      exact ⟨rfl, A7.out.then K9⟩
theorem walk (n : Int) (v1 : Value) (l : List Trap) (v2 : Value) (u : Trap) (w : World) (wn : (Lit.int .i64 n).wf = true) (w1 : TrapsAt w v1 l) (w2 : TrapIs v2 u) :
    Calls Try.prog 21 #[.int .i64 n, v1, v2] w fun e w' => e = .returned (.bool true) ∧ Keep nob w w' := by
  obtain ⟨rfl, fu⟩ := w2
  unfold Trap.val
  by_cases h : 2 ≤ n ∧ n ≤ 10 ∧ l.length ≤ 30
  · obtain ⟨m, rfl⟩ : ∃ m : Nat, n = m := ⟨n.toNat, by omega⟩
    exact walk_in m v1 l u w (by omega) (by omega) h.2.2 w1 fu
  · obtain ⟨a, cap, rfl, hm, hf, hc⟩ := w1
    obtain ⟨T1, s1⟩ : ∃ T, decide (n < 2) = T := ⟨_, rfl⟩
    obtain ⟨T2, s2⟩ : ∃ T, decide (10 < n) = T := ⟨_, rfl⟩
    obtain ⟨T3, s3⟩ : ∃ T, decide ((30 : Int) < l.length) = T := ⟨_, rfl⟩
    have HT : (T1 || (T2 || T3)) = true := by
      rw [← s1, ← s2, ← s3]
      simp only [Bool.or_eq_true, decide_eq_true_eq]
      omega
    clear h fu wn hf hc hm
    go_enter Try.func21, Try.ntmps21
    go_wp2_with fail
    all_goals first
      | ((with_reducible refine Calls.mono (awake04 _) ?_); rintro e w16 ⟨rfl, K16⟩; go_wp2; go_ret; exact ⟨rfl, ((Keep.refl _ _).alloc _).then K16⟩)
      | (exfalso; simp_all)
set_option maxRecDepth 100000 in
theorem lifted (os : Os) (started : os.Started) (H : Type) (enc : TypeId × Value → H) :
    ReturnsInHanded {} Try.checked os 21 .any (Rows.trapOverSpec.pre6 enc Try.prog Try.f21 Rows.trapOverRow.domain false) (Rows.trapOverSpec.post enc Try.prog Try.f21 false true false false) := by
  refine returnsInHanded_of_change (C := Try.checked) Head.own started (by kernel_rfl) Try.func21
    (ChangeSpec.witness6 (enc := enc) (C := Try.checked) false ⟨#[], #[.int .i64 0, .slice none 0 0, (.agg #[.int .u32 0, .int .u32 0, .int .u32 0, .int .u32 0, .int .u32 0, .int .u32 0, .int .u32 0, .int .u32 0, .int .u32 0, .int .u32 0])], []⟩ 8 (by kernel_rfl) (by kernel_rfl) (by kernel_rfl) (by kernel_rfl)) ?_
  intro W base args ds gs before hval0 hW hcnd _
  have hval : ∀ (j : Nat) t v, Try.f21.params[j]? = some t → args[j]? = some v → Value.okWide Try.prog W .any base t v := hval0
  have hW' := hW
  obtain ⟨p, q, hA0, hV, rfl, hfz, hnd⟩ := hW
  have hA : DataW.TrodAll enc Try.prog W 0 (fun _ => true) true Try.f21.params.toList args.toList ds p := hA0
  rw [Try.params21] at hA hval
  obtain ⟨v0, vs0, d0, ds0, p0, q0, hargs, rfl, rfl, h0, r0⟩ := trodAll_cons hA
  obtain ⟨v1, vs1, d1, ds1, p1, q1, rfl, rfl, rfl, h1, r1⟩ := trodAll_cons r0
  obtain ⟨v2, vs2, d2, ds2, p2, q2, rfl, rfl, rfl, h2, r2⟩ := trodAll_cons r1
  obtain ⟨rfl, rfl, rfl⟩ := trodAll_nil r2
  obtain rfl : args = #[v0, v1, v2] := by cases args; simp_all
  obtain ⟨rfl, rfl⟩ := trodVars_none hV
  have k0 := h0
  have lt0 : ∀ x ∈ p0, x.block < W.heap.size := by obtain ⟨m, hm⟩ := k0; exact DataW.trod_lt m _ _ _ hm
  obtain ⟨a0, rfl, rfl, rfl, w0⟩ := open_int Try.underlying3 (hval 0 3 v0 rfl rfl) h0
  have k1 := h1
  have lt1 : ∀ x ∈ p1, x.block < W.heap.size := by obtain ⟨m, hm⟩ := k1; exact DataW.trod_lt m _ _ _ hm
  obtain ⟨a1, w1⟩ := open_traps (hval 1 87 v1 rfl rfl) h1
  have k2 := h2
  have lt2 : ∀ x ∈ p2, x.block < W.heap.size := by obtain ⟨m, hm⟩ := k2; exact DataW.trod_lt m _ _ _ hm
  obtain ⟨a2, w2⟩ := open_trap (hval 2 76 v2 rfl rfl) h2
  clear hA0 hval0
  refine (walk a0 v1 a1 v2 a2 W w0 w1 w2).mono fun e W' ⟨he, kp⟩ => ?_
  subst he
  have bel := kp.below
  exact ⟨_, rfl, _, _, _, [], _, [], hW', trodAll_mk1 (shut_bool Try.underlying4 _), (trodAll_cons_mk (shut_int Try.underlying3 w0) (trodAll_cons_mk (Below.trod Head.laidOut (by kernel_rfl) (of_decide_eq_true (by kernel_rfl)) k1 bel lt1) (trodAll_cons_mk (Below.trod Head.laidOut (by kernel_rfl) (of_decide_eq_true (by kernel_rfl)) k2 bel lt2) trodAll_mk0))), rfl, bel.frame _, fun h => by cases h⟩
theorem closed : joinedFacts Try.prog 21 Try.f21 Rows.trapOverSpec Rows.trapOverRow = true := by
  unfold joinedFacts
  rw [Head.mayEnter, Head.liftsFinal, Head.make]
  kernel_rfl
theorem over : Rows.trapOverRow.holds Try.pinned (OpenSpec.ofChange Rows.trapOverSpec) :=
  OpenClaim.holds_of_wide 21 Try.f21 rfl rfl rfl rfl rfl rfl rfl ⟨rfl, rfl, rfl, rfl, rfl⟩ rfl rfl rfl rfl rfl (by kernel_rfl) Try.func21 closed
    (of_decide_eq_true (by kernel_rfl)) (by unfold Func.isWrapper; first | (rw [if_pos (by decide +kernel)]; kernel_rfl) | (rw [if_neg (by decide +kernel)]; exact ⟨rfl, rfl⟩))
    (fun os started H enc _ => lifted os started H enc)
theorem proved : Rows.TrapOverSaid := over
end Go.Proofs.Ytkkkmaigcnpmeaa.trapOver

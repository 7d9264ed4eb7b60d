/- The three slots of a frame keep what was saved in each, in whatever order it was saved. Condition: 1 to 10 frames. -/
import Derived.Test.YtkkkmaigcnpmeaaTrapV
import Derived.Deep.QuietTactic
import Derived.BigQuiet
namespace Go.Proofs.Ytkkkmaigcnpmeaa.trapThree
open Go.ChangeShapes Go.WideShapes Go.ChangeAt Go.RowKit
set_option linter.unusedVariables false
set_option maxRecDepth 100000
theorem build3 (w : World) (t0 t1 t2 : Trap) : (Instr.buildSlice 87 3 #[(0, .agg t0.cells), (1, .agg t1.cells), (2, .agg t2.cells)]).run Try.prog w = .ok (.slice (some ⟨w.heap.size, 0, none⟩) 3 3) (w.alloc (.cells (t0.cells ++ (t1.cells ++ t2.cells)) 76)) := by
  obtain ⟨x0, x1, x2, x3, x4, x5, x6, x7, x8, x9⟩ := t0
  obtain ⟨y0, y1, y2, y3, y4, y5, y6, y7, y8, y9⟩ := t1
  obtain ⟨z0, z1, z2, z3, z4, z5, z6, z7, z8, z9⟩ := t2
  kernel_rfl
theorem wpList_build3 {ops : Array Oper} {rest : List Oper} {op : Oper} {a : Act} {w : World} {Q : Exit → Act → World → Prop} (x y z : Operand) (t0 t1 t2 : Trap)
    (hw : Region.wanted op (yielded ops a.tmps) = true) (ho : op.op = .buildSlice 87 3 #[(0, x), (1, y), (2, z)]) (hx : a.eval x = .agg t0.cells) (hy : a.eval y = .agg t1.cells) (hz : a.eval z = .agg t2.cells)
    (h : wpList Try.prog ops Q rest (a.put op.dst (.slice (some ⟨w.heap.size, 0, none⟩) 3 3)) (w.alloc (.cells (t0.cells ++ (t1.cells ++ t2.cells)) 76))) : wpList Try.prog ops Q (op :: rest) a w := by
  refine BigFrame.wpList_want hw fun K hK => ?_
  unfold Oper.wp execOp
  simp only [ho, List.map_toArray, List.map_cons, List.map_nil, hx, hy, hz, Sem.run_bind, build3 w t0 t1 t2, Sem.run_pure, Result.andThen_ok]
  exact hK _ _ h
def pick3 (t0 t1 t2 : Trap) (j : Nat) : Trap := if j = 0 then t0 else if j = 1 then t1 else t2
def ord (TQ : Bool) (k : Nat) : Nat := if TQ then 2 - k else k
/-- The memory behind k saves. -/
def stage (i : Int) (t0 t1 t2 : Trap) (TQ : Bool) : Nat → Nat → Int
  | 0 => fun _ => 0
  | k + 1 => span (stage i t0 t1 t2 TQ k) (i.toNat * 32 + (ord TQ k) * 10) (pick3 t0 t1 t2 (ord TQ k)).list 10
def Three (w : World) (g : Nat) (t0 t1 t2 : Trap) : Prop := TrapIn w g 0 t0 ∧ TrapIn w g 10 t1 ∧ TrapIn w g 20 t2
theorem Three.keep {w w' : World} {g : Nat} {t0 t1 t2 : Trap} {S : Nat → Prop} (h : Three w g t0 t1 t2) (k : Keep S w w') (hs : ¬ S g) : Three w' g t0 t1 t2 := ⟨h.1.keep k hs, h.2.1.keep k hs, h.2.2.keep k hs⟩
theorem three (w : World) (t0 t1 t2 : Trap) (T : TypeId) : Three (w.alloc (.cells (t0.cells ++ (t1.cells ++ t2.cells)) T)) w.heap.size t0 t1 t2 := by
  have e : (t0.cells ++ (t1.cells ++ t2.cells)).toList = t0.cells.toList ++ (t1.cells.toList ++ t2.cells.toList) := by simp only [Array.toList_append]
  have l0 : t0.cells.toList.length = 10 := rfl
  have l1 : t1.cells.toList.length = 10 := rfl
  refine ⟨fun j v hv => new_at _ _ _ _ v ?_, fun j v hv => new_at _ _ _ _ v ?_, fun j v hv => new_at _ _ _ _ v ?_⟩
  · have hj : j < 10 := (List.getElem?_eq_some_iff.1 hv).1
    rw [e, Nat.zero_add, List.getElem?_append_left (by rw [l0]; exact hj)]
    exact hv
  · have hj : j < 10 := (List.getElem?_eq_some_iff.1 hv).1
    rw [e, List.getElem?_append_right (by rw [l0]; omega), l0, Nat.add_sub_cancel_left, List.getElem?_append_left (by rw [l1]; exact hj)]
    exact hv
  · rw [e, List.getElem?_append_right (by rw [l0]; omega), l0, show 20 + j - 10 = 10 + j by omega, List.getElem?_append_right (by rw [l1]; omega), l1, Nat.add_sub_cancel_left]
    exact hv
def ThI (w : World) (b f g n : Nat) (i : Int) (t0 t1 t2 : Trap) (TQ : Bool) (v : Value) (wr : World) : Prop :=
  ∃ k : Nat, v = .int .i64 k ∧ k ≤ 3 ∧ MemAt wr b f n (stage i t0 t1 t2 TQ k) ∧ Three wr g t0 t1 t2 ∧ Keep nob w wr
def ThJ (w : World) (b f g n : Nat) (c : Nat → Int) (t0 t1 t2 : Trap) (v : Value) (wr : World) : Prop :=
  ∃ k : Nat, v = .int .i64 k ∧ k ≤ 3 ∧ MemAt wr b f n c ∧ Three wr g t0 t1 t2 ∧ Keep nob w wr
theorem stage3 (i : Int) (i0 : 0 ≤ i) (t0 t1 t2 : Trap) (TQ : Bool) :
    slotL (stage i t0 t1 t2 TQ 3) i 0 = t0.list ∧ slotL (stage i t0 t1 t2 TQ 3) i 1 = t1.list ∧ slotL (stage i t0 t1 t2 TQ 3) i 2 = t2.list := by
  have L0 := t0.list_len
  have L1 := t1.list_len
  have L2 := t2.list_len
  cases TQ
  · show slotL (span (span (span (fun _ => 0) (i.toNat * 32 + (0 : Int).toNat * 10) t0.list 10) (i.toNat * 32 + (1 : Int).toNat * 10) t1.list 10) (i.toNat * 32 + (2 : Int).toNat * 10) t2.list 10) i 0 = t0.list ∧ slotL (span (span (span (fun _ => 0) (i.toNat * 32 + (0 : Int).toNat * 10) t0.list 10) (i.toNat * 32 + (1 : Int).toNat * 10) t1.list 10) (i.toNat * 32 + (2 : Int).toNat * 10) t2.list 10) i 1 = t1.list ∧ slotL (span (span (span (fun _ => 0) (i.toNat * 32 + (0 : Int).toNat * 10) t0.list 10) (i.toNat * 32 + (1 : Int).toNat * 10) t1.list 10) (i.toNat * 32 + (2 : Int).toNat * 10) t2.list 10) i 2 = t2.list
    refine ⟨?_, ?_, ?_⟩
    · rw [slot_other _ i 2 i 0 _ (by decide) (by decide) (by decide) (by decide) i0 i0 (Or.inr (by decide)), slot_other _ i 1 i 0 _ (by decide) (by decide) (by decide) (by decide) i0 i0 (Or.inr (by decide)), slot_same _ i 0 _ L0 (by decide) (by decide)]
    · rw [slot_other _ i 2 i 1 _ (by decide) (by decide) (by decide) (by decide) i0 i0 (Or.inr (by decide)), slot_same _ i 1 _ L1 (by decide) (by decide)]
    · rw [slot_same _ i 2 _ L2 (by decide) (by decide)]
  · show slotL (span (span (span (fun _ => 0) (i.toNat * 32 + (2 : Int).toNat * 10) t2.list 10) (i.toNat * 32 + (1 : Int).toNat * 10) t1.list 10) (i.toNat * 32 + (0 : Int).toNat * 10) t0.list 10) i 0 = t0.list ∧ slotL (span (span (span (fun _ => 0) (i.toNat * 32 + (2 : Int).toNat * 10) t2.list 10) (i.toNat * 32 + (1 : Int).toNat * 10) t1.list 10) (i.toNat * 32 + (0 : Int).toNat * 10) t0.list 10) i 1 = t1.list ∧ slotL (span (span (span (fun _ => 0) (i.toNat * 32 + (2 : Int).toNat * 10) t2.list 10) (i.toNat * 32 + (1 : Int).toNat * 10) t1.list 10) (i.toNat * 32 + (0 : Int).toNat * 10) t0.list 10) i 2 = t2.list
    refine ⟨?_, ?_, ?_⟩
    · rw [slot_same _ i 0 _ L0 (by decide) (by decide)]
    · rw [slot_other _ i 0 i 1 _ (by decide) (by decide) (by decide) (by decide) i0 i0 (Or.inr (by decide)), slot_same _ i 1 _ L1 (by decide) (by decide)]
    · rw [slot_other _ i 0 i 2 _ (by decide) (by decide) (by decide) (by decide) i0 i0 (Or.inr (by decide)), slot_other _ i 1 i 2 _ (by decide) (by decide) (by decide) (by decide) i0 i0 (Or.inr (by decide)), slot_same _ i 2 _ L2 (by decide) (by decide)]
set_option maxHeartbeats 1600000 in
theorem walk_in (n : Nat) (i : Int) (t0 t1 t2 : Trap) (q : Int) (w : World) (n1 : 1 ≤ n) (n2 : n ≤ 10) (i0 : 0 ≤ i) (i1 : i < n) (f0 : t0.fine) (f1 : t1.fine) (f2 : t2.fine) :
    Calls Try.prog 20 #[.int .i64 n, .int .i64 i, .agg t0.cells, .agg t1.cells, .agg t2.cells, .int .i64 q] w fun e w' => e = .returned (.bool true) ∧ Keep nob w w' := by
  have a1 : decide ((n : Int) < 1) = false := by simp; omega
  have a2 : decide ((10 : Int) < n) = false := by simp; omega
  have a3 : decide (i < 0) = false := by simp; omega
  have a4 : decide ((n : Int) ≤ i) = false := by simp; omega
  have HN := Lib.hid n1
  have HI := Lib.hid i1
  have F0 := Lib.hid f0
  have F1 := Lib.hid f1
  have F2 := Lib.hid f2
  clear f0 f1 f2
  obtain ⟨TQ, tq⟩ : ∃ T, (q.tmod 2 != 0) = T := ⟨_, rfl⟩
  go_enter Try.func20, Try.ntmps20
  go_wp2_with fail
  refine Calls.mono (new_ok _ n (by omega) (by omega)) ?_
  rintro e w1 ⟨b, f, rfl, M1, hb, hf, K1⟩
  have T8 := Lib.hid ((((TrapIn.new w t0 76).next ((Keep.refl _ _).alloc (.cells t1.cells 76))).next ((Keep.refl _ _).alloc (.cells t2.cells 76))).next K1)
  have T9 := (((TrapIn.new (w.alloc (.cells t0.cells 76)) t1 76).next ((Keep.refl _ _).alloc (.cells t2.cells 76))).next K1)
  have T10 := ((TrapIn.new ((w.alloc (.cells t0.cells 76)).alloc (.cells t1.cells 76)) t2 76).next K1)
  simp only [World.size_alloc] at T9 T10
  replace T9 := Lib.hid T9
  replace T10 := Lib.hid T10
  have A1 := Lib.hid ((((Keep.refl nob w).alloc (.cells t0.cells 76)).alloc (.cells t1.cells 76)).alloc (.cells t2.cells 76) |>.then K1)
  have M1f := Lib.hid M1.flt
  have hf0 := Lib.hid (show w.heap.size ≤ f by simp only [World.size_alloc] at hf; omega)
  have M2 := Lib.hid (M1.next ((Keep.refl _ _).alloc (.cells (t0.cells ++ (t1.cells ++ t2.cells)) 76)))
  have S2 := Lib.hid (three w1 t0 t1 t2 76)
  have A2 := Lib.hid (A1.out.alloc (.cells (t0.cells ++ (t1.cells ++ t2.cells)) 76))
  clear K1
  go_wp2_with (first | ((with_reducible refine wpList_load_trap (.tmp 8) _ _ _ T8.out ?_ rfl rfl ?_); · rfl) | ((with_reducible refine wpList_load_trap (.tmp 9) _ _ _ T9.out ?_ rfl rfl ?_); · rfl)  | ((with_reducible refine wpList_load_trap (.tmp 10) _ _ _ T10.out ?_ rfl rfl ?_); · rfl) | ((with_reducible refine wpList_build3 (.tmp 48) (.tmp 49) (.tmp 50) t0 t1 t2 ?_ rfl rfl rfl rfl ?_); · rfl))
  go_loopw [16] (fun i' wr => ThI w b f w1.heap.size n i t0 t1 t2 TQ i' wr) (fun i' _ => (3 - intOf i').toNat)
  case atStart => exact ⟨0, rfl, by decide, M2.out, S2.out, A2.out⟩
  case round =>
    obtain ⟨k, rfl, hk, M, S, A⟩ := hrel
    have hn1 : f < w1.heap.size := M1f.out
    have hfg := Lib.hid (show ¬ only f w1.heap.size by unfold only; omega)
    clear hn1
    by_cases hlt : k < 3
    · have SV0 := Lib.hid (show Calls Try.prog 56 #[.pointer (some ⟨b, 0, none⟩), .int .i64 i, .int .i64 0, .agg t0.cells] wr _ from save_in M i 0 t0 F0.out ⟨i0, HI.out, by decide, by decide⟩)
      have SV1 := Lib.hid (show Calls Try.prog 56 #[.pointer (some ⟨b, 0, none⟩), .int .i64 i, .int .i64 1, .agg t1.cells] wr _ from save_in M i 1 t1 F1.out ⟨i0, HI.out, by decide, by decide⟩)
      have SV2 := Lib.hid (show Calls Try.prog 56 #[.pointer (some ⟨b, 0, none⟩), .int .i64 i, .int .i64 2, .agg t2.cells] wr _ from save_in M i 2 t2 F2.out ⟨i0, HI.out, by decide, by decide⟩)
      have X0 := Lib.hid S.1
      have X1 := Lib.hid S.2.1
      have X2 := Lib.hid S.2.2
      have S := Lib.hid S
      have A := Lib.hid A
      clear M
      have hk3 : k = 0 ∨ k = 1 ∨ k = 2 := by omega
      clear hlt hk
      rcases hk3 with rfl | rfl | rfl <;> cases TQ
      all_goals
        go_wp2_with (first | ((with_reducible refine wpList_load_trap (.tmp 72) _ _ _ X0.out ?_ rfl rfl ?_); · rfl) | ((with_reducible refine wpList_load_trap (.tmp 72) _ _ _ X1.out ?_ rfl rfl ?_); · rfl) | ((with_reducible refine wpList_load_trap (.tmp 72) _ _ _ X2.out ?_ rfl rfl ?_); · rfl))
        first
          | (with_reducible refine Calls.mono SV0.out ?_)
          | (with_reducible refine Calls.mono SV1.out ?_)
          | (with_reducible refine Calls.mono SV2.out ?_)
        rintro r w5 ⟨rfl, M5, K5⟩
        have M5 := Lib.hid M5
        have S5 := Lib.hid (S.out.keep K5 hfg.out)
        have A5 := Lib.hid (A.out.trans K5 (fun q hq e => by have e : q = f := e; have := hf0.out; omega))
        clear SV0 SV1 SV2 S A X0 X1 X2 K5
        go_wp2_with fail
        go_roundw
        case rel => exact ⟨_ + 1, by go_num, by decide, M5.out, S5.out, A5.out⟩
        case measure => simp [intOf]
    · obtain rfl : k = 3 := by omega
      clear hlt hk
      have H3 := stage3 i i0 t0 t1 t2 TQ
      have H0 := Lib.hid H3.1
      have H1 := Lib.hid H3.2.1
      have H2 := Lib.hid H3.2.2
      clear H3
      obtain ⟨c, hc⟩ : ∃ c, c = stage i t0 t1 t2 TQ 3 := ⟨_, rfl⟩
      rw [← hc] at M H0 H1 H2
      clear hc tq
      have M := Lib.hid M
      have S := Lib.hid S
      have A := Lib.hid A
      go_wp2_with fail
      go_loopw [18] (fun i' wr => ThJ w b f w1.heap.size n c t0 t1 t2 i' wr) (fun i' _ => (3 - intOf i').toNat)
      case atStart => exact ⟨0, rfl, by decide, M.out, S.out, A.out⟩
      case round =>
        clear M S A
        obtain ⟨k, rfl, hk, M, S, A⟩ := hrel
        by_cases hlt : k < 3
        · have LD0 := Lib.hid (load_t M i 0 ⟨i0, HI.out, by decide, by decide⟩ t0 H0.out)
          have LD1 := Lib.hid (load_t M i 1 ⟨i0, HI.out, by decide, by decide⟩ t1 H1.out)
          have LD2 := Lib.hid (load_t M i 2 ⟨i0, HI.out, by decide, by decide⟩ t2 H2.out)
          have M := Lib.hid M
          have S := Lib.hid S
          have A := Lib.hid A
          have hk3 : k = 0 ∨ k = 1 ∨ k = 2 := by omega
          clear hlt hk
          rcases hk3 with rfl | rfl | rfl
          · go_wp2_with fail
            (with_reducible refine Calls.mono LD0.out ?_)
            rintro r w5 ⟨rfl, K5⟩
            have M5 := Lib.hid (M.out.next K5)
            have S5 := Lib.hid (S.out.keep K5 (fun x => x))
            have A5 := Lib.hid (A.out.then K5)
            clear M S A K5 LD0 LD1 LD2 H0 H1 H2 F0 F1 F2 T8 T9 T10 A1 M1f M2 S2 A2
            have hg5 := S5.out.1.lt
            go_wp2_with ((with_reducible refine wpList_store_trapZ (.tmp 19) (.tmp 87) t0 ?_ rfl rfl rfl ?_); · rfl)
            have KK : Keep nob w5 (w5.alloc (.cells t0.cells 76)) := (Keep.refl _ _).alloc _
            have S6 := S5.out.keep KK (fun x => x)
            have M6 := Lib.hid (M5.out.next KK)
            have A6 := Lib.hid (A5.out.then KK)
            have X6 := S6.1
            obtain ⟨x0, x1, x2, x3, x4, x5, x6, x7, x8, x9⟩ := t0
            unfold Trap.cells at X6 ⊢
            have c0 : (w5.alloc (.cells #[.int .u32 x0, .int .u32 x1, .int .u32 x2, .int .u32 x3, .int .u32 x4, .int .u32 x5, .int .u32 x6, .int .u32 x7, .int .u32 x8, .int .u32 x9] 76)).cell? ⟨w1.heap.size, 0, none⟩ = some (.int .u32 x0) := X6 0 _ rfl
            have c1 : (w5.alloc (.cells #[.int .u32 x0, .int .u32 x1, .int .u32 x2, .int .u32 x3, .int .u32 x4, .int .u32 x5, .int .u32 x6, .int .u32 x7, .int .u32 x8, .int .u32 x9] 76)).cell? ⟨w1.heap.size, 1, none⟩ = some (.int .u32 x1) := X6 1 _ rfl
            have c2 : (w5.alloc (.cells #[.int .u32 x0, .int .u32 x1, .int .u32 x2, .int .u32 x3, .int .u32 x4, .int .u32 x5, .int .u32 x6, .int .u32 x7, .int .u32 x8, .int .u32 x9] 76)).cell? ⟨w1.heap.size, 2, none⟩ = some (.int .u32 x2) := X6 2 _ rfl
            have c3 : (w5.alloc (.cells #[.int .u32 x0, .int .u32 x1, .int .u32 x2, .int .u32 x3, .int .u32 x4, .int .u32 x5, .int .u32 x6, .int .u32 x7, .int .u32 x8, .int .u32 x9] 76)).cell? ⟨w1.heap.size, 3, none⟩ = some (.int .u32 x3) := X6 3 _ rfl
            have c4 : (w5.alloc (.cells #[.int .u32 x0, .int .u32 x1, .int .u32 x2, .int .u32 x3, .int .u32 x4, .int .u32 x5, .int .u32 x6, .int .u32 x7, .int .u32 x8, .int .u32 x9] 76)).cell? ⟨w1.heap.size, 4, none⟩ = some (.int .u32 x4) := X6 4 _ rfl
            have c5 : (w5.alloc (.cells #[.int .u32 x0, .int .u32 x1, .int .u32 x2, .int .u32 x3, .int .u32 x4, .int .u32 x5, .int .u32 x6, .int .u32 x7, .int .u32 x8, .int .u32 x9] 76)).cell? ⟨w1.heap.size, 5, none⟩ = some (.int .u32 x5) := X6 5 _ rfl
            have c6 : (w5.alloc (.cells #[.int .u32 x0, .int .u32 x1, .int .u32 x2, .int .u32 x3, .int .u32 x4, .int .u32 x5, .int .u32 x6, .int .u32 x7, .int .u32 x8, .int .u32 x9] 76)).cell? ⟨w1.heap.size, 6, none⟩ = some (.int .u32 x6) := X6 6 _ rfl
            have c7 : (w5.alloc (.cells #[.int .u32 x0, .int .u32 x1, .int .u32 x2, .int .u32 x3, .int .u32 x4, .int .u32 x5, .int .u32 x6, .int .u32 x7, .int .u32 x8, .int .u32 x9] 76)).cell? ⟨w1.heap.size, 7, none⟩ = some (.int .u32 x7) := X6 7 _ rfl
            have c8 : (w5.alloc (.cells #[.int .u32 x0, .int .u32 x1, .int .u32 x2, .int .u32 x3, .int .u32 x4, .int .u32 x5, .int .u32 x6, .int .u32 x7, .int .u32 x8, .int .u32 x9] 76)).cell? ⟨w1.heap.size, 8, none⟩ = some (.int .u32 x8) := X6 8 _ rfl
            have c9 : (w5.alloc (.cells #[.int .u32 x0, .int .u32 x1, .int .u32 x2, .int .u32 x3, .int .u32 x4, .int .u32 x5, .int .u32 x6, .int .u32 x7, .int .u32 x8, .int .u32 x9] 76)).cell? ⟨w1.heap.size, 9, none⟩ = some (.int .u32 x9) := X6 9 _ rfl
            have S6 := Lib.hid S6
            have hneq := neTrap
            clear X6 S5 M5 A5 KK
            go_quiet (fail)
            go_wp2_with fail
            go_roundw
            case rel =>
              (repeat apply Exists.intro)
              refine ⟨?_, rfl⟩
              exact ⟨0 + 1, by go_num, by decide, M6.out.next (Keep.drewN (Keep.refl _ _) _), S6.out.keep (Keep.drewN (Keep.refl nob _) _) (fun x => x), A6.out.drewN _⟩
            case measure => simp [intOf]
          · go_wp2_with fail
            (with_reducible refine Calls.mono LD1.out ?_)
            rintro r w5 ⟨rfl, K5⟩
            have M5 := Lib.hid (M.out.next K5)
            have S5 := Lib.hid (S.out.keep K5 (fun x => x))
            have A5 := Lib.hid (A.out.then K5)
            clear M S A K5 LD0 LD1 LD2 H0 H1 H2 F0 F1 F2 T8 T9 T10 A1 M1f M2 S2 A2
            have hg5 := S5.out.1.lt
            go_wp2_with ((with_reducible refine wpList_store_trapZ (.tmp 19) (.tmp 87) t1 ?_ rfl rfl rfl ?_); · rfl)
            have KK : Keep nob w5 (w5.alloc (.cells t1.cells 76)) := (Keep.refl _ _).alloc _
            have S6 := S5.out.keep KK (fun x => x)
            have M6 := Lib.hid (M5.out.next KK)
            have A6 := Lib.hid (A5.out.then KK)
            have X6 := S6.2.1
            obtain ⟨x0, x1, x2, x3, x4, x5, x6, x7, x8, x9⟩ := t1
            unfold Trap.cells at X6 ⊢
            have c0 : (w5.alloc (.cells #[.int .u32 x0, .int .u32 x1, .int .u32 x2, .int .u32 x3, .int .u32 x4, .int .u32 x5, .int .u32 x6, .int .u32 x7, .int .u32 x8, .int .u32 x9] 76)).cell? ⟨w1.heap.size, 10, none⟩ = some (.int .u32 x0) := X6 0 _ rfl
            have c1 : (w5.alloc (.cells #[.int .u32 x0, .int .u32 x1, .int .u32 x2, .int .u32 x3, .int .u32 x4, .int .u32 x5, .int .u32 x6, .int .u32 x7, .int .u32 x8, .int .u32 x9] 76)).cell? ⟨w1.heap.size, 11, none⟩ = some (.int .u32 x1) := X6 1 _ rfl
            have c2 : (w5.alloc (.cells #[.int .u32 x0, .int .u32 x1, .int .u32 x2, .int .u32 x3, .int .u32 x4, .int .u32 x5, .int .u32 x6, .int .u32 x7, .int .u32 x8, .int .u32 x9] 76)).cell? ⟨w1.heap.size, 12, none⟩ = some (.int .u32 x2) := X6 2 _ rfl
            have c3 : (w5.alloc (.cells #[.int .u32 x0, .int .u32 x1, .int .u32 x2, .int .u32 x3, .int .u32 x4, .int .u32 x5, .int .u32 x6, .int .u32 x7, .int .u32 x8, .int .u32 x9] 76)).cell? ⟨w1.heap.size, 13, none⟩ = some (.int .u32 x3) := X6 3 _ rfl
            have c4 : (w5.alloc (.cells #[.int .u32 x0, .int .u32 x1, .int .u32 x2, .int .u32 x3, .int .u32 x4, .int .u32 x5, .int .u32 x6, .int .u32 x7, .int .u32 x8, .int .u32 x9] 76)).cell? ⟨w1.heap.size, 14, none⟩ = some (.int .u32 x4) := X6 4 _ rfl
            have c5 : (w5.alloc (.cells #[.int .u32 x0, .int .u32 x1, .int .u32 x2, .int .u32 x3, .int .u32 x4, .int .u32 x5, .int .u32 x6, .int .u32 x7, .int .u32 x8, .int .u32 x9] 76)).cell? ⟨w1.heap.size, 15, none⟩ = some (.int .u32 x5) := X6 5 _ rfl
            have c6 : (w5.alloc (.cells #[.int .u32 x0, .int .u32 x1, .int .u32 x2, .int .u32 x3, .int .u32 x4, .int .u32 x5, .int .u32 x6, .int .u32 x7, .int .u32 x8, .int .u32 x9] 76)).cell? ⟨w1.heap.size, 16, none⟩ = some (.int .u32 x6) := X6 6 _ rfl
            have c7 : (w5.alloc (.cells #[.int .u32 x0, .int .u32 x1, .int .u32 x2, .int .u32 x3, .int .u32 x4, .int .u32 x5, .int .u32 x6, .int .u32 x7, .int .u32 x8, .int .u32 x9] 76)).cell? ⟨w1.heap.size, 17, none⟩ = some (.int .u32 x7) := X6 7 _ rfl
            have c8 : (w5.alloc (.cells #[.int .u32 x0, .int .u32 x1, .int .u32 x2, .int .u32 x3, .int .u32 x4, .int .u32 x5, .int .u32 x6, .int .u32 x7, .int .u32 x8, .int .u32 x9] 76)).cell? ⟨w1.heap.size, 18, none⟩ = some (.int .u32 x8) := X6 8 _ rfl
            have c9 : (w5.alloc (.cells #[.int .u32 x0, .int .u32 x1, .int .u32 x2, .int .u32 x3, .int .u32 x4, .int .u32 x5, .int .u32 x6, .int .u32 x7, .int .u32 x8, .int .u32 x9] 76)).cell? ⟨w1.heap.size, 19, none⟩ = some (.int .u32 x9) := X6 9 _ rfl
            have S6 := Lib.hid S6
            have hneq := neTrap
            clear X6 S5 M5 A5 KK
            go_quiet (fail)
            go_wp2_with fail
            go_roundw
            case rel =>
              (repeat apply Exists.intro)
              refine ⟨?_, rfl⟩
              exact ⟨1 + 1, by go_num, by decide, M6.out.next (Keep.drewN (Keep.refl _ _) _), S6.out.keep (Keep.drewN (Keep.refl nob _) _) (fun x => x), A6.out.drewN _⟩
            case measure => simp [intOf]
          · go_wp2_with fail
            (with_reducible refine Calls.mono LD2.out ?_)
            rintro r w5 ⟨rfl, K5⟩
            have M5 := Lib.hid (M.out.next K5)
            have S5 := Lib.hid (S.out.keep K5 (fun x => x))
            have A5 := Lib.hid (A.out.then K5)
            clear M S A K5 LD0 LD1 LD2 H0 H1 H2 F0 F1 F2 T8 T9 T10 A1 M1f M2 S2 A2
            have hg5 := S5.out.1.lt
            go_wp2_with ((with_reducible refine wpList_store_trapZ (.tmp 19) (.tmp 87) t2 ?_ rfl rfl rfl ?_); · rfl)
            have KK : Keep nob w5 (w5.alloc (.cells t2.cells 76)) := (Keep.refl _ _).alloc _
            have S6 := S5.out.keep KK (fun x => x)
            have M6 := Lib.hid (M5.out.next KK)
            have A6 := Lib.hid (A5.out.then KK)
            have X6 := S6.2.2
            obtain ⟨x0, x1, x2, x3, x4, x5, x6, x7, x8, x9⟩ := t2
            unfold Trap.cells at X6 ⊢
            have c0 : (w5.alloc (.cells #[.int .u32 x0, .int .u32 x1, .int .u32 x2, .int .u32 x3, .int .u32 x4, .int .u32 x5, .int .u32 x6, .int .u32 x7, .int .u32 x8, .int .u32 x9] 76)).cell? ⟨w1.heap.size, 20, none⟩ = some (.int .u32 x0) := X6 0 _ rfl
            have c1 : (w5.alloc (.cells #[.int .u32 x0, .int .u32 x1, .int .u32 x2, .int .u32 x3, .int .u32 x4, .int .u32 x5, .int .u32 x6, .int .u32 x7, .int .u32 x8, .int .u32 x9] 76)).cell? ⟨w1.heap.size, 21, none⟩ = some (.int .u32 x1) := X6 1 _ rfl
            have c2 : (w5.alloc (.cells #[.int .u32 x0, .int .u32 x1, .int .u32 x2, .int .u32 x3, .int .u32 x4, .int .u32 x5, .int .u32 x6, .int .u32 x7, .int .u32 x8, .int .u32 x9] 76)).cell? ⟨w1.heap.size, 22, none⟩ = some (.int .u32 x2) := X6 2 _ rfl
            have c3 : (w5.alloc (.cells #[.int .u32 x0, .int .u32 x1, .int .u32 x2, .int .u32 x3, .int .u32 x4, .int .u32 x5, .int .u32 x6, .int .u32 x7, .int .u32 x8, .int .u32 x9] 76)).cell? ⟨w1.heap.size, 23, none⟩ = some (.int .u32 x3) := X6 3 _ rfl
            have c4 : (w5.alloc (.cells #[.int .u32 x0, .int .u32 x1, .int .u32 x2, .int .u32 x3, .int .u32 x4, .int .u32 x5, .int .u32 x6, .int .u32 x7, .int .u32 x8, .int .u32 x9] 76)).cell? ⟨w1.heap.size, 24, none⟩ = some (.int .u32 x4) := X6 4 _ rfl
            have c5 : (w5.alloc (.cells #[.int .u32 x0, .int .u32 x1, .int .u32 x2, .int .u32 x3, .int .u32 x4, .int .u32 x5, .int .u32 x6, .int .u32 x7, .int .u32 x8, .int .u32 x9] 76)).cell? ⟨w1.heap.size, 25, none⟩ = some (.int .u32 x5) := X6 5 _ rfl
            have c6 : (w5.alloc (.cells #[.int .u32 x0, .int .u32 x1, .int .u32 x2, .int .u32 x3, .int .u32 x4, .int .u32 x5, .int .u32 x6, .int .u32 x7, .int .u32 x8, .int .u32 x9] 76)).cell? ⟨w1.heap.size, 26, none⟩ = some (.int .u32 x6) := X6 6 _ rfl
            have c7 : (w5.alloc (.cells #[.int .u32 x0, .int .u32 x1, .int .u32 x2, .int .u32 x3, .int .u32 x4, .int .u32 x5, .int .u32 x6, .int .u32 x7, .int .u32 x8, .int .u32 x9] 76)).cell? ⟨w1.heap.size, 27, none⟩ = some (.int .u32 x7) := X6 7 _ rfl
            have c8 : (w5.alloc (.cells #[.int .u32 x0, .int .u32 x1, .int .u32 x2, .int .u32 x3, .int .u32 x4, .int .u32 x5, .int .u32 x6, .int .u32 x7, .int .u32 x8, .int .u32 x9] 76)).cell? ⟨w1.heap.size, 28, none⟩ = some (.int .u32 x8) := X6 8 _ rfl
            have c9 : (w5.alloc (.cells #[.int .u32 x0, .int .u32 x1, .int .u32 x2, .int .u32 x3, .int .u32 x4, .int .u32 x5, .int .u32 x6, .int .u32 x7, .int .u32 x8, .int .u32 x9] 76)).cell? ⟨w1.heap.size, 29, none⟩ = some (.int .u32 x9) := X6 9 _ rfl
            have S6 := Lib.hid S6
            have hneq := neTrap
            clear X6 S5 M5 A5 KK
            go_quiet (fail)
            go_wp2_with fail
            go_roundw
            case rel =>
              (repeat apply Exists.intro)
              refine ⟨?_, rfl⟩
              exact ⟨2 + 1, by go_num, by decide, M6.out.next (Keep.drewN (Keep.refl _ _) _), S6.out.keep (Keep.drewN (Keep.refl nob _) _) (fun x => x), A6.out.drewN _⟩
            case measure => simp [intOf]
        · obtain rfl : k = 3 := by omega
          have A := Lib.hid A
          clear M S hlt hk H0 H1 H2
          go_wp2_with fail
          refine Calls.mono (awake04 _) ?_
          rintro r w9 ⟨rfl, K9⟩
          go_wp2_with fail
          go_ret
          exact ⟨rfl, A.out.then K9⟩
theorem walk (n i : Int) (v0 : Value) (t0 : Trap) (v1 : Value) (t1 : Trap) (v2 : Value) (t2 : Trap) (q : Int) (w : World) (wn : (Lit.int .i64 n).wf = true) (wi : (Lit.int .i64 i).wf = true)
    (w0 : TrapIs v0 t0) (w1 : TrapIs v1 t1) (w2 : TrapIs v2 t2) (wq : (Lit.int .i64 q).wf = true) :
    Calls Try.prog 20 #[.int .i64 n, .int .i64 i, v0, v1, v2, .int .i64 q] w fun e w' => e = .returned (.bool true) ∧ Keep nob w w' := by
  obtain ⟨rfl, f0⟩ := w0
  obtain ⟨rfl, f1⟩ := w1
  obtain ⟨rfl, f2⟩ := w2
  unfold Trap.val
  by_cases h : 1 ≤ n ∧ n ≤ 10 ∧ 0 ≤ i ∧ i < n
  · obtain ⟨m, rfl⟩ : ∃ m : Nat, n = m := ⟨n.toNat, by omega⟩
    exact walk_in m i t0 t1 t2 q w (by omega) (by omega) h.2.2.1 h.2.2.2 f0 f1 f2
  · obtain ⟨T1, s1⟩ : ∃ T, decide (n < 1) = T := ⟨_, rfl⟩
    obtain ⟨T2, s2⟩ : ∃ T, decide (10 < n) = T := ⟨_, rfl⟩
    obtain ⟨T3, s3⟩ : ∃ T, decide (i < 0) = T := ⟨_, rfl⟩
    obtain ⟨T4, s4⟩ : ∃ T, decide (n ≤ i) = T := ⟨_, rfl⟩
    have HT : (T1 || (T2 || (T3 || T4))) = true := by
      rw [← s1, ← s2, ← s3, ← s4]
      simp only [Bool.or_eq_true, decide_eq_true_eq]
      omega
    clear h f0 f1 f2 wn wi wq
    go_enter Try.func20, Try.ntmps20
    go_wp2_with fail
    all_goals first
      | ((with_reducible refine Calls.mono (awake04 _) ?_); rintro e w16 ⟨rfl, K16⟩; go_wp2; go_ret; exact ⟨rfl, ((((Keep.refl _ _).alloc _).alloc _).alloc _).then K16⟩)
      | (exfalso; simp_all)
set_option maxRecDepth 100000 in
theorem lifted (os : Os) (started : os.Started) (H : Type) (enc : TypeId × Value → H) :
    ReturnsInHanded {} Try.checked os 20 .any (Rows.trapThreeSpec.pre6 enc Try.prog Try.f20 Rows.trapThreeRow.domain false) (Rows.trapThreeSpec.post enc Try.prog Try.f20 false true false false) := by
  refine returnsInHanded_of_change (C := Try.checked) Head.own started (by kernel_rfl) Try.func20
    (ChangeSpec.witness6 (enc := enc) (C := Try.checked) false ⟨#[], #[.int .i64 0, .int .i64 0, (.agg #[.int .u32 0, .int .u32 0, .int .u32 0, .int .u32 0, .int .u32 0, .int .u32 0, .int .u32 0, .int .u32 0, .int .u32 0, .int .u32 0]), (.agg #[.int .u32 0, .int .u32 0, .int .u32 0, .int .u32 0, .int .u32 0, .int .u32 0, .int .u32 0, .int .u32 0, .int .u32 0, .int .u32 0]), (.agg #[.int .u32 0, .int .u32 0, .int .u32 0, .int .u32 0, .int .u32 0, .int .u32 0, .int .u32 0, .int .u32 0, .int .u32 0, .int .u32 0]), .int .i64 0], []⟩ 8 (by kernel_rfl) (by kernel_rfl) (by kernel_rfl) (by kernel_rfl)) ?_
  intro W base args ds gs before hval0 hW hcnd _
  have hval : ∀ (j : Nat) t v, Try.f20.params[j]? = some t → args[j]? = some v → Value.okWide Try.prog W .any base t v := hval0
  have hW' := hW
  obtain ⟨p, q, hA0, hV, rfl, hfz, hnd⟩ := hW
  have hA : DataW.TrodAll enc Try.prog W 0 (fun _ => true) true Try.f20.params.toList args.toList ds p := hA0
  rw [Try.params20] at hA hval
  obtain ⟨v0, vs0, d0, ds0, p0, q0, hargs, rfl, rfl, h0, r0⟩ := trodAll_cons hA
  obtain ⟨v1, vs1, d1, ds1, p1, q1, rfl, rfl, rfl, h1, r1⟩ := trodAll_cons r0
  obtain ⟨v2, vs2, d2, ds2, p2, q2, rfl, rfl, rfl, h2, r2⟩ := trodAll_cons r1
  obtain ⟨v3, vs3, d3, ds3, p3, q3, rfl, rfl, rfl, h3, r3⟩ := trodAll_cons r2
  obtain ⟨v4, vs4, d4, ds4, p4, q4, rfl, rfl, rfl, h4, r4⟩ := trodAll_cons r3
  obtain ⟨v5, vs5, d5, ds5, p5, q5, rfl, rfl, rfl, h5, r5⟩ := trodAll_cons r4
  obtain ⟨rfl, rfl, rfl⟩ := trodAll_nil r5
  obtain rfl : args = #[v0, v1, v2, v3, v4, v5] := by cases args; simp_all
  obtain ⟨rfl, rfl⟩ := trodVars_none hV
  have k0 := h0
  have lt0 : ∀ x ∈ p0, x.block < W.heap.size := by obtain ⟨m, hm⟩ := k0; exact DataW.trod_lt m _ _ _ hm
  obtain ⟨a0, rfl, rfl, rfl, w0⟩ := open_int Try.underlying3 (hval 0 3 v0 rfl rfl) h0
  have k1 := h1
  have lt1 : ∀ x ∈ p1, x.block < W.heap.size := by obtain ⟨m, hm⟩ := k1; exact DataW.trod_lt m _ _ _ hm
  obtain ⟨a1, rfl, rfl, rfl, w1⟩ := open_int Try.underlying3 (hval 1 3 v1 rfl rfl) h1
  have k2 := h2
  have lt2 : ∀ x ∈ p2, x.block < W.heap.size := by obtain ⟨m, hm⟩ := k2; exact DataW.trod_lt m _ _ _ hm
  obtain ⟨a2, w2⟩ := open_trap (hval 2 76 v2 rfl rfl) h2
  have k3 := h3
  have lt3 : ∀ x ∈ p3, x.block < W.heap.size := by obtain ⟨m, hm⟩ := k3; exact DataW.trod_lt m _ _ _ hm
  obtain ⟨a3, w3⟩ := open_trap (hval 3 76 v3 rfl rfl) h3
  have k4 := h4
  have lt4 : ∀ x ∈ p4, x.block < W.heap.size := by obtain ⟨m, hm⟩ := k4; exact DataW.trod_lt m _ _ _ hm
  obtain ⟨a4, w4⟩ := open_trap (hval 4 76 v4 rfl rfl) h4
  have k5 := h5
  have lt5 : ∀ x ∈ p5, x.block < W.heap.size := by obtain ⟨m, hm⟩ := k5; exact DataW.trod_lt m _ _ _ hm
  obtain ⟨a5, rfl, rfl, rfl, w5⟩ := open_int Try.underlying3 (hval 5 3 v5 rfl rfl) h5
  clear hA0 hval0
  refine (walk a0 a1 v2 a2 v3 a3 v4 a4 a5 W w0 w1 w2 w3 w4 w5).mono fun e W' ⟨he, kp⟩ => ?_
  subst he
  have bel := kp.below
  exact ⟨_, rfl, _, _, _, [], _, [], hW', trodAll_mk1 (shut_bool Try.underlying4 _), (trodAll_cons_mk (shut_int Try.underlying3 w0) (trodAll_cons_mk (shut_int Try.underlying3 w1) (trodAll_cons_mk (Below.trod Head.laidOut (by kernel_rfl) (of_decide_eq_true (by kernel_rfl)) k2 bel lt2) (trodAll_cons_mk (Below.trod Head.laidOut (by kernel_rfl) (of_decide_eq_true (by kernel_rfl)) k3 bel lt3) (trodAll_cons_mk (Below.trod Head.laidOut (by kernel_rfl) (of_decide_eq_true (by kernel_rfl)) k4 bel lt4) (trodAll_cons_mk (shut_int Try.underlying3 w5) trodAll_mk0)))))), rfl, bel.frame _, fun h => by cases h⟩
theorem closed : joinedFacts Try.prog 20 Try.f20 Rows.trapThreeSpec Rows.trapThreeRow = true := by
  unfold joinedFacts
  rw [Head.mayEnter, Head.liftsFinal, Head.make]
  kernel_rfl
theorem over : Rows.trapThreeRow.holds Try.pinned (OpenSpec.ofChange Rows.trapThreeSpec) :=
  OpenClaim.holds_of_wide 20 Try.f20 rfl rfl rfl rfl rfl rfl rfl ⟨rfl, rfl, rfl, rfl, rfl⟩ rfl rfl rfl rfl rfl (by kernel_rfl) Try.func20 closed
    (of_decide_eq_true (by kernel_rfl)) (by unfold Func.isWrapper; first | (rw [if_pos (by decide +kernel)]; kernel_rfl) | (rw [if_neg (by decide +kernel)]; exact ⟨rfl, rfl⟩))
    (fun os started H enc _ => lifted os started H enc)
theorem proved : Rows.TrapThreeSaid := over
end Go.Proofs.Ytkkkmaigcnpmeaa.trapThree

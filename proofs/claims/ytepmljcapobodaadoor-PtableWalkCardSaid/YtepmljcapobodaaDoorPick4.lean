/- Contracts of package pick (4): Len. -/
import Derived.Test.YtepmljcapobodaaDoorPick3
import Derived.BigFrame
namespace Go.Proofs.YtepmljcapobodaaDoor
open Go.RowKit
set_option linter.unusedVariables false
set_option maxRecDepth 100000
set_option maxHeartbeats 1000000 in
theorem ones_core (x A B C D E F R : Nat) (w : World)
    (k1 : IntKind.u64.wrap (bits BinOp.and IntKind.u64 ((x : Int) / 2) 6148914691236517205 + bits BinOp.and IntKind.u64 (x : Int) 6148914691236517205) = (A : Int))
    (k2 : IntKind.u64.wrap (bits BinOp.and IntKind.u64 ((A : Int) / 4) 3689348814741910323 + bits BinOp.and IntKind.u64 (A : Int) 3689348814741910323) = (B : Int))
    (k3 : bits BinOp.and IntKind.u64 (IntKind.u64.wrap ((B : Int) / 16 + B)) 1085102592571150095 = (C : Int))
    (k4 : IntKind.u64.wrap ((C : Int) + (C : Int) / 256) = (D : Int))
    (k5 : IntKind.u64.wrap ((D : Int) + (D : Int) / 65536) = (E : Int))
    (k6 : IntKind.u64.wrap ((E : Int) + (E : Int) / 4294967296) = (F : Int))
    (k7 : bits BinOp.and IntKind.i64 (wrap64 (F : Int)) 127 = (R : Int)) :
    Calls Tryd.prog 92 #[.int .u64 x] w fun e w' => e = .returned (.int .i64 R) ∧ w = w' := by
  go_enter Tryd.func92, Tryd.ntmps92
  go_wp2_with (simp only [k1, k2, k3, k4, k5, k6, k7])
  go_ret
  exact ⟨rfl, rfl⟩
theorem u64_sum (a b : Nat) (h : a + b < 18446744073709551616) : IntKind.u64.wrap ((a : Int) + (b : Int)) = ((a + b : Nat) : Int) := by
  rw [IntKind.wrap_u64]; omega
theorem div_cast (a b : Nat) : (a : Int) / (b : Int) = ((a / b : Nat) : Int) := by norm_cast
theorem low7 (F : Nat) (h : F < 18446744073709551616) : bits BinOp.and IntKind.i64 (wrap64 (F : Int)) 127 = ((F % 128 : Nat) : Int) := by
  have e : (BitVec.ofInt 64 (wrap64 (F : Int))).toNat = F := by
    rw [BitVec.toNat_ofInt]
    simp only [wrap64]
    omega
  have e2 : (BitVec.ofInt 64 127).toNat = 127 := by decide
  show IntKind.i64.wrap ((BitVec.ofInt 64 (wrap64 (F : Int)) &&& BitVec.ofInt 64 127).toNat : Int) = _
  rw [BitVec.toNat_and, e, e2, nat_mask7]
  exact IntWalk.i64_in _ (by omega)
theorem and_le_m (a m : Nat) : a &&& m ≤ m := Nat.and_le_right
theorem nat_half (x k : Nat) (h : x < 18446744073709551616) : x / k < 18446744073709551616 := Nat.lt_of_le_of_lt (Nat.div_le_self _ _) h
theorem stepA_lt (x : Nat) : stepA x < 18446744073709551616 := Nat.lt_of_le_of_lt (Nat.add_le_add (and_le_m _ _) (and_le_m _ _)) (by decide)
theorem stepB_le (x : Nat) : stepB x ≤ 7378697629483820646 := Nat.le_trans (Nat.add_le_add (and_le_m _ _) (and_le_m _ _)) (by decide)
theorem stepC_lt (x : Nat) : stepC x < 18446744073709551616 := Nat.lt_of_le_of_lt (and_le_m _ _) (by decide)
theorem stepA_int (x : Nat) (hx : x < 18446744073709551616) : IntKind.u64.wrap (bits BinOp.and IntKind.u64 ((x : Int) / 2) 6148914691236517205 + bits BinOp.and IntKind.u64 (x : Int) 6148914691236517205) = (stepA x : Int) := by
  have a := u64_and_nat (x / 2) m0 (nat_half _ _ hx) (by decide)
  have b := u64_and_nat x m0 hx (by decide)
  have e : ((m0 : Nat) : Int) = 6148914691236517205 := rfl
  have q : ((x / 2 : Nat) : Int) = (x : Int) / 2 := by norm_cast
  rw [e, q] at a
  rw [e] at b
  rw [a, b, u64_sum _ _ (stepA_lt x)]
  rfl
theorem stepB_int (x : Nat) (hx : x < 18446744073709551616) : IntKind.u64.wrap (bits BinOp.and IntKind.u64 ((x : Int) / 4) 3689348814741910323 + bits BinOp.and IntKind.u64 (x : Int) 3689348814741910323) = (stepB x : Int) := by
  have a := u64_and_nat (x / 4) m1 (nat_half _ _ hx) (by decide)
  have b := u64_and_nat x m1 hx (by decide)
  have e : ((m1 : Nat) : Int) = 3689348814741910323 := rfl
  have q : ((x / 4 : Nat) : Int) = (x : Int) / 4 := by norm_cast
  rw [e, q] at a
  rw [e] at b
  rw [a, b, u64_sum _ _ (Nat.lt_of_le_of_lt (stepB_le x) (by decide))]
  rfl
theorem stepC_int (x : Nat) (hx : x ≤ 7378697629483820646) : bits BinOp.and IntKind.u64 (IntKind.u64.wrap ((x : Int) / 16 + x)) 1085102592571150095 = (stepC x : Int) := by
  have h : x / 16 + x < 18446744073709551616 := Nat.lt_of_le_of_lt (Nat.add_le_add (Nat.le_trans (Nat.div_le_self _ _) hx) hx) (by decide)
  have a := u64_and_nat (x / 16 + x) m2 h (by decide)
  have e : ((m2 : Nat) : Int) = 1085102592571150095 := rfl
  have q : ((x / 16 : Nat) : Int) = (x : Int) / 16 := by norm_cast
  have s := u64_sum _ _ h
  rw [q] at s
  rw [e] at a
  rw [s, a]
  rfl
theorem add_int (c k : Nat) (h : c + c / k < 18446744073709551616) : IntKind.u64.wrap ((c : Int) + (c : Int) / (k : Int)) = ((c + c / k : Nat) : Int) := by
  have q : ((c / k : Nat) : Int) = (c : Int) / k := by norm_cast
  rw [← q]
  exact u64_sum _ _ h
theorem ones_ok (x : Nat) (hx : x < 18446744073709551616) (w : World) :
    Calls Tryd.prog 92 #[.int .u64 x] w fun e w' => e = .returned (.int .i64 (ones x)) ∧ w = w' := by
  obtain ⟨h1, h2, h3, h4⟩ := swar_sum x hx _ _ _ _ rfl rfl rfl rfl
  have key := ones_core x (stepA x) (stepB (stepA x)) (stepC (stepB (stepA x))) _ _ _ (ones x) w (stepA_int x hx) (stepB_int _ (stepA_lt x)) (stepC_int _ (stepB_le _)) (add_int _ 256 h1) (add_int _ 65536 h2) (add_int _ 4294967296 h3)
  rw [← h4] at key ⊢
  exact key (low7 _ h3)
/-! ### Len -/
def setV (W : Nat → Nat) : List Value := (List.range 16).map fun i => .int .u64 (W i)
theorem setV_get (W : Nat → Nat) (i : Nat) (h : i < 16) : (setV W)[i]? = some (.int .u64 (W i)) := by
  unfold setV
  simp [h]
theorem SetAt.range {w : World} {s : Nat} {W : Nat → Nat} (h : SetAt w s W) : w.rangeAt s 1 (setV W) := fun j v hv => by
  by_cases q : j < 16
  · rw [setV_get W j q] at hv
    cases hv
    exact h.cell j q
  · exfalso
    unfold setV at hv
    simp [q] at hv
theorem infoSet : (Tryd.prog.info? 153).map (·.size) = some 16 := by kernel_rfl
theorem index_set (W : Nat → Nat) (w : World) (k : Nat) (h : k < 16) : (Instr.index 153 (.agg (setV W).toArray) (.int .i64 k)).run Tryd.prog w = .ok (.int .u64 (W k)) w := by
  have e := setV_get W k h
  have hn : 0 ≤ (k : Int) ∧ (k : Int) < 16 := by omega
  simp [Instr.index, run_underlying Tryd.underlying153, asIntOf, hn, go_sem, e, h]
theorem wpList_load_set {ops : Array Oper} {rest : List Oper} {op : Oper} {a : Act} {w : World} {Q : Exit → Act → World → Prop} (x : Operand) (s : Nat) (W : Nat → Nat) (h : SetAt w s W)
    (hw : Region.wanted op (yielded ops a.tmps) = true) (ho : op.op = .load 153 x) (hx : a.eval x = .pointer (some ⟨s, 1, none⟩))
    (k : wpList Tryd.prog ops Q rest (a.put op.dst (.agg (setV W).toArray)) w) : wpList Tryd.prog ops Q (op :: rest) a w :=
  BigFrame.wpList_want hw fun _ hK => wp_load_mid 153 x ho s 1 hx (setV W) _ h.range Tryd.underlying153 rfl infoSet (hK _ _ k)
/-- Inside the loop of Len. -/
def LenI (w : World) (W : Nat → Nat) (n i : Value) (wr : World) : Prop := ∃ k : Nat, i = .int .i64 k ∧ k ≤ 16 ∧ n = .int .i64 (sumW W k) ∧ w = wr
theorem ones_le (x : Nat) : ones x ≤ 64 := by
  rw [ones_cnt]
  have : ∀ P n, cnt P n ≤ n := fun P n => by
    induction n with
    | zero => exact Nat.le_refl _
    | succ n ih => rw [cnt]; split <;> omega
  exact this _ _
theorem sumW_le (W : Nat → Nat) (k : Nat) : sumW W k ≤ 64 * k := by
  induction k with
  | zero => exact Nat.le_refl _
  | succ k ih => rw [sumW]; have := ones_le (W k); omega
set_option maxHeartbeats 1000000 in
theorem len_ok {w : World} {s : Nat} {W : Nat → Nat} (h : SetAt w s W) :
    Calls Tryd.prog 57 #[.pointer (some ⟨s, 0, none⟩)] w fun r w' => r = .returned (.int .i64 (cnt (memW W) 1024)) ∧ w = w' := by
  have H := Lib.hid h
  have L := Lib.hid (sumW_cnt W 16)
  clear h
  go_enter Tryd.func57, Tryd.ntmps57
  go_wp2_with ((with_reducible refine wpList_load_set (.tmp 10) s W H.out ?_ rfl rfl ?_); · rfl)
  go_loopw [3, 12] (fun n i wr => LenI w W n i wr) (fun _ i _ => (16 - intOf i).toNat)
  case atStart => exact ⟨0, rfl, by decide, rfl, rfl⟩
  case round =>
    obtain ⟨k, rfl, hk, rfl, rfl⟩ := hrel
    by_cases hlt : k < 16
    · have t1 : decide ((k : Int) < 16) = true := by simp; omega
      have ix := index_set W w k hlt
      have b1 := sumW_le W k
      have b2 := ones_le (W k)
      go_wp2_with fail
      refine Calls.mono (ones_ok (W k) (H.out.lt k) _) ?_
      rintro r w' ⟨rfl, rfl⟩
      go_wp2_with fail
      go_roundw
      case rel => exact ⟨k + 1, by go_num, by omega, by rw [sumW]; go_num, rfl⟩
      case measure => simp [intOf]; omega
    · have t1 : decide ((k : Int) < 16) = false := by simp; omega
      obtain rfl : k = 16 := by omega
      go_wp2_with fail
      go_ret
      rw [← L.out]
      exact ⟨rfl, rfl⟩
end Go.Proofs.YtepmljcapobodaaDoor

/- Frames of a trap as wholes: loads, stores, comparisons that leave them shut. -/
import Derived.Test.YtkkkmaigcnpmeaaTrapEq
import Derived.BigFrame
namespace Go.Proofs.Ytkkkmaigcnpmeaa
open Go.RowKit
set_option linter.unusedVariables false
set_option maxRecDepth 100000
theorem infoTrap : (Try.prog.info? 76).map (·.size) = some 10 := by kernel_rfl
def TrapIn (w : World) (b o : Nat) (t : Trap) : Prop := w.rangeAt b o t.cells.toList
theorem TrapIn.keep {w w' : World} {b o : Nat} {t : Trap} {S : Nat → Prop} (h : TrapIn w b o t) (k : Keep S w w') (hs : ¬ S b) : TrapIn w' b o t := fun j v hv => k.some (h j v hv) hs
theorem TrapIn.next {w w' : World} {b o : Nat} {t : Trap} (h : TrapIn w b o t) (k : Keep nob w w') : TrapIn w' b o t := h.keep k (fun x => x)
theorem TrapIn.new (w : World) (t : Trap) (T : TypeId) : TrapIn (w.alloc (.cells t.cells T)) w.heap.size 0 t := fun j v hv => by rw [Nat.zero_add]; exact new_at _ _ _ j v hv
theorem TrapIn.lt {w : World} {b o : Nat} {t : Trap} (h : TrapIn w b o t) : b < w.heap.size := World.block_lt_of_cell? _ _ (h 0 (.int .u32 t.x0) rfl)
theorem load_trap {w : World} {b o : Nat} {t : Trap} (h : TrapIn w b o t) : (Instr.loadAt 76 (.pointer (some ⟨b, o, none⟩))).run Try.prog w = .ok (.agg t.cells) w :=
  run_loadAt_mid w b o 76 t.cells.toList _ h Try.underlying76 rfl infoTrap
theorem store_trap (w : World) (t u : Trap) :
    (Instr.storeAt 76 (.pointer (some ⟨w.heap.size, 0, none⟩)) (.agg t.cells)).run Try.prog (w.alloc (.cells u.cells 76)) = .ok () (w.alloc (.cells t.cells 76)) := by
  have h := run_storeAt_mid (P := Try.prog) (w.alloc (.cells u.cells 76)) w.heap.size 0 76 t.cells (fun j hj => by
    have hj : j < 10 := hj
    rw [Nat.zero_add]
    have hu : j < u.cells.size := hj
    exact ⟨by rw [new_at _ _ _ j (u.cells[j]'hu) (by simp [hu])]; rfl, new_free _ _ _ _⟩) infoTrap (by simp [Trap.cells, Value.oneCell'])
  rw [h]
  obtain ⟨x0, x1, x2, x3, x4, x5, x6, x7, x8, x9⟩ := t
  obtain ⟨y0, y1, y2, y3, y4, y5, y6, y7, y8, y9⟩ := u
  simp only [Trap.cells, World.setCells, World.setCell_alloc_new, List.setIfInBounds_toArray, List.set, Nat.zero_add]
theorem store_trap_zero (w : World) (t : Trap) :
    (Instr.storeAt 76 (.pointer (some ⟨w.heap.size, 0, none⟩)) (.agg t.cells)).run Try.prog (w.alloc (.cells #[.int .u32 0, .int .u32 0, .int .u32 0, .int .u32 0, .int .u32 0, .int .u32 0, .int .u32 0, .int .u32 0, .int .u32 0, .int .u32 0] 76)) = .ok () (w.alloc (.cells t.cells 76)) := store_trap w t Trap.zero
theorem eqTrapV (w : World) (t u : Trap) : (binOp .eql 76 (.agg t.cells) (.agg u.cells)).run Try.prog w = .ok (.bool (decide (t.list = u.list))) w := by
  obtain ⟨x0, x1, x2, x3, x4, x5, x6, x7, x8, x9⟩ := t
  obtain ⟨y0, y1, y2, y3, y4, y5, y6, y7, y8, y9⟩ := u
  exact eqTrap w x0 x1 x2 x3 x4 x5 x6 x7 x8 x9 y0 y1 y2 y3 y4 y5 y6 y7 y8 y9
theorem neTrapV (w : World) (t u : Trap) : (binOp .neq 76 (.agg t.cells) (.agg u.cells)).run Try.prog w = .ok (.bool (!decide (t.list = u.list))) w := by
  obtain ⟨x0, x1, x2, x3, x4, x5, x6, x7, x8, x9⟩ := t
  obtain ⟨y0, y1, y2, y3, y4, y5, y6, y7, y8, y9⟩ := u
  exact neTrap w x0 x1 x2 x3 x4 x5 x6 x7 x8 x9 y0 y1 y2 y3 y4 y5 y6 y7 y8 y9
theorem eqTrapS (w : World) (t : Trap) : (binOp .eql 76 (.agg t.cells) (.agg t.cells)).run Try.prog w = .ok (.bool true) w := by rw [eqTrapV]; simp
theorem neTrapS (w : World) (t : Trap) : (binOp .neq 76 (.agg t.cells) (.agg t.cells)).run Try.prog w = .ok (.bool false) w := by rw [neTrapV]; simp
theorem eqTrapZ (w : World) : (binOp .eql 76 (.agg Trap.zero.cells) (.agg #[.int .u32 0, .int .u32 0, .int .u32 0, .int .u32 0, .int .u32 0, .int .u32 0, .int .u32 0, .int .u32 0, .int .u32 0, .int .u32 0])).run Try.prog w = .ok (.bool true) w := eqTrapS w Trap.zero
theorem neTrapZ (w : World) : (binOp .neq 76 (.agg Trap.zero.cells) (.agg #[.int .u32 0, .int .u32 0, .int .u32 0, .int .u32 0, .int .u32 0, .int .u32 0, .int .u32 0, .int .u32 0, .int .u32 0, .int .u32 0])).run Try.prog w = .ok (.bool false) w := neTrapS w Trap.zero
theorem wpList_load_trap {ops : Array Oper} {rest : List Oper} {op : Oper} {a : Act} {w : World} {Q : Exit → Act → World → Prop} (x : Operand) (b o : Nat) (t : Trap) (hT : TrapIn w b o t)
    (hw : Region.wanted op (yielded ops a.tmps) = true) (ho : op.op = .load 76 x) (hx : a.eval x = .pointer (some ⟨b, o, none⟩))
    (h : wpList Try.prog ops Q rest (a.put op.dst (.agg t.cells)) w) : wpList Try.prog ops Q (op :: rest) a w :=
  BigFrame.wpList_want hw fun _ hK => wp_load_mid 76 x ho b o hx t.cells.toList _ hT Try.underlying76 rfl infoTrap (hK _ _ h)
theorem wpList_store_trap {ops : Array Oper} {rest : List Oper} {op : Oper} {a : Act} {w : World} {Q : Exit → Act → World → Prop} (x y : Operand) (t u : Trap)
    (hw : Region.wanted op (yielded ops a.tmps) = true) (ho : op.op = .store 76 x y) (hx : a.eval x = .pointer (some ⟨w.heap.size, 0, none⟩)) (hy : a.eval y = .agg t.cells)
    (h : wpList Try.prog ops Q rest (a.put op.dst undef) (w.alloc (.cells t.cells 76))) : wpList Try.prog ops Q (op :: rest) a (w.alloc (.cells u.cells 76)) := by
  refine BigFrame.wpList_want hw fun K hK => ?_
  unfold Oper.wp execOp
  simp only [ho, hx, hy, Sem.run_bind, store_trap w t u, Sem.run_pure, Result.andThen_ok]
  exact hK _ _ h
theorem wpList_store_trapZ {ops : Array Oper} {rest : List Oper} {op : Oper} {a : Act} {w : World} {Q : Exit → Act → World → Prop} (x y : Operand) (t : Trap)
    (hw : Region.wanted op (yielded ops a.tmps) = true) (ho : op.op = .store 76 x y) (hx : a.eval x = .pointer (some ⟨w.heap.size, 0, none⟩)) (hy : a.eval y = .agg t.cells)
    (h : wpList Try.prog ops Q rest (a.put op.dst undef) (w.alloc (.cells t.cells 76))) : wpList Try.prog ops Q (op :: rest) a (w.alloc (.cells #[.int .u32 0, .int .u32 0, .int .u32 0, .int .u32 0, .int .u32 0, .int .u32 0, .int .u32 0, .int .u32 0, .int .u32 0, .int .u32 0] 76)) :=
  wpList_store_trap x y t Trap.zero hw ho hx hy h
/-! ### Slots -/
theorem slotL_eq (c : Nat → Int) (i s : Int) (h0 : 0 ≤ s) (h : s < 3) : slotL c i s = (List.range 10).map fun j => c (i.toNat * 32 + s.toNat * 10 + j) := by
  apply List.ext_getElem?
  intro j
  unfold slotL
  by_cases hj : j < 10
  · rw [List.getElem?_take, if_pos hj, List.getElem?_drop, words_get c i.toNat _ (by omega)]
    simp [hj, Nat.add_assoc]
  · rw [List.getElem?_take, if_neg hj]
    simp [hj]
theorem list_ix (l : List Int) (h : l.length = 10) : l = (List.range 10).map (ix l) := by
  match l, h with
  | [a0, a1, a2, a3, a4, a5, a6, a7, a8, a9], _ => rfl
theorem slot_same (c : Nat → Int) (i s : Int) (l : List Int) (hl : l.length = 10) (h0 : 0 ≤ s) (h : s < 3) : slotL (span c (i.toNat * 32 + s.toNat * 10) l 10) i s = l := by
  rw [slotL_eq _ _ _ h0 h]
  conv => rhs; rw [list_ix l hl]
  refine List.map_congr_left (fun j hj => ?_)
  have := List.mem_range.1 hj
  unfold span
  rw [if_pos ⟨by omega, by omega⟩, show i.toNat * 32 + s.toNat * 10 + j - (i.toNat * 32 + s.toNat * 10) = j by omega]
theorem slots_apart (a a' d d' j : Nat) (h : d < 3) (h' : d' < 3) (hj : j < 10) (hne : a ≠ a' ∨ d ≠ d') : ¬ (a * 32 + d * 10 ≤ a' * 32 + d' * 10 + j ∧ a' * 32 + d' * 10 + j < a * 32 + d * 10 + 10) := by
  rcases Nat.lt_trichotomy a a' with q | q | q
  · omega
  · subst q
    rcases Nat.lt_trichotomy d d' with q | q | q
    · omega
    · omega
    · omega
  · omega
theorem slot_other (c : Nat → Int) (i s i' s' : Int) (l : List Int) (h0 : 0 ≤ s) (h : s < 3) (h0' : 0 ≤ s') (h' : s' < 3) (hi : 0 ≤ i) (hi' : 0 ≤ i') (hne : i ≠ i' ∨ s ≠ s') :
    slotL (span c (i.toNat * 32 + s.toNat * 10) l 10) i' s' = slotL c i' s' := by
  rw [slotL_eq _ _ _ h0' h', slotL_eq _ _ _ h0' h']
  refine List.map_congr_left (fun j hj => ?_)
  have hj := List.mem_range.1 hj
  unfold span
  obtain ⟨a, rfl⟩ := Int.eq_ofNat_of_zero_le hi
  obtain ⟨a', rfl⟩ := Int.eq_ofNat_of_zero_le hi'
  obtain ⟨d, rfl⟩ := Int.eq_ofNat_of_zero_le h0
  obtain ⟨d', rfl⟩ := Int.eq_ofNat_of_zero_le h0'
  simp only [Int.toNat_natCast]
  rw [if_neg (slots_apart a a' d d' j (by omega) (by omega) hj (by omega))]
theorem slot_zero (i s : Int) (h0 : 0 ≤ s) (h : s < 3) : slotL (fun _ => 0) i s = Trap.zero.list := by
  rw [slotL_eq _ _ _ h0 h]
  rfl
theorem load_t {w : World} {b f n : Nat} {c : Nat → Int} (M : MemAt w b f n c) (i s : Int) (h : inS n i s) (t : Trap) (ht : slotL c i s = t.list) :
    Calls Try.prog 57 #[.pointer (some ⟨b, 0, none⟩), .int .i64 i, .int .i64 s] w fun r w' => r = .returned (.tuple #[.agg t.cells, .int .i64 0]) ∧ Keep nob w w' := by
  have := load_in M i s h
  rw [ht, ofT_list] at this
  exact this
end Go.Proofs.Ytkkkmaigcnpmeaa

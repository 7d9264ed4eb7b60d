/- Contracts of package walk: a page's entry, through two levels. -/
import Derived.Test.YtkkkmaigcnpmeaaWalk
namespace Go.Proofs.Ytkkkmaigcnpmeaa
open Go.RowKit
set_option linter.unusedVariables false
set_option linter.unusedSimpArgs false
set_option maxRecDepth 100000
section
variable (e : Int → Int → Ent) (ok : Int → Int → Bool)
def pgF (root i k : Int) : Int := if ok root i then (if (e root i).p then (if ok (e root i).f k then (if (e (e root i).f k).p then 0 else 3) else 6) else 2) else 6
def pgE (root i k : Int) : Ent := if ok root i && (e root i).p && ok (e root i).f k && (e (e root i).f k).p then e (e root i).f k else Ent.zero
end
theorem EntAt.put {w : World} {b : Nat} {p q c p' q' c' : Bool} {f f' : Int} (h : EntAt w b p q c f) :
    EntAt ((((w.setCell ⟨b, 0, none⟩ (.bool p')).setCell ⟨b, 1, none⟩ (.bool q')).setCell ⟨b, 2, none⟩ (.bool c')).setCell ⟨b, 3, none⟩ (.int .i64 f')) b p' q' c' f' := by
  have s (w : World) (k k' : Nat) (v : Value) (hk : k ≠ k') : (w.setCell ⟨b, k, none⟩ v).cell? ⟨b, k', none⟩ = w.cell? ⟨b, k', none⟩ := setCell_off hk
  refine ⟨?_, ?_, ?_, ?_, ?_, ?_, ?_, ?_⟩
  · rw [s _ 3 0 _ (by decide), s _ 2 0 _ (by decide), s _ 1 0 _ (by decide)]; exact setCell_eq h.c0
  · rw [s _ 3 1 _ (by decide), s _ 2 1 _ (by decide)]; exact setCell_eq (u := .bool q) (by rw [s _ 0 1 _ (by decide)]; exact h.c1)
  · rw [s _ 3 2 _ (by decide)]; exact setCell_eq (u := .bool c) (by rw [s _ 1 2 _ (by decide), s _ 0 2 _ (by decide)]; exact h.c2)
  · exact setCell_eq (u := .int .i64 f) (by rw [s _ 2 3 _ (by decide), s _ 1 3 _ (by decide), s _ 0 3 _ (by decide)]; exact h.c3)
  · rw [frozen_setCell, frozen_setCell, frozen_setCell, frozen_setCell]; exact h.z0
  · rw [frozen_setCell, frozen_setCell, frozen_setCell, frozen_setCell]; exact h.z1
  · rw [frozen_setCell, frozen_setCell, frozen_setCell, frozen_setCell]; exact h.z2
  · rw [frozen_setCell, frozen_setCell, frozen_setCell, frozen_setCell]; exact h.z3
theorem infoEnt : (Try.prog.info? 47).map (·.size) = some 4 := by kernel_rfl
theorem EntAt.range {w : World} {b : Nat} {p q c : Bool} {f : Int} (h : EntAt w b p q c f) : w.rangeAt b 0 [.bool p, .bool q, .bool c, .int .i64 f] := by
  intro j v hv
  rw [Nat.zero_add]
  rcases j with _ | _ | _ | _ | j
  · injection hv with hv; rw [← hv]; exact h.c0
  · injection hv with hv; rw [← hv]; exact h.c1
  · injection hv with hv; rw [← hv]; exact h.c2
  · injection hv with hv; rw [← hv]; exact h.c3
  · simp at hv
theorem results_ent {fn : Func} {r u : Tmp} (h : fn.results = #[.cell r 47, .tmp u]) (tmps : Array Value) (w : World) (b : Nat) {p q c : Bool} {f : Int} (hE : EntAt w b p q c f) (hp : tmps.getD r undef = .pointer (some ⟨b, 0, none⟩)) (U : Value)
    (hu : tmps.getD u undef = U) : (results fn tmps).run Try.prog w = .ok (.tuple #[.agg #[.bool p, .bool q, .bool c, .int .i64 f], U]) w := by
  rw [results_cell_tmp h, hp, hu]
  have := run_loadVar_mid w b 0 47 _ _ hE.range Try.underlying47 rfl infoEnt
  simp [asAddr, Sem.run_pure, Result.andThen_ok, this]
theorem ixA (w : World) (i k : Int) : (Instr.index 133 (.agg #[.int .i64 i, .int .i64 k]) (.int .i64 0)).run Try.prog w = .ok (.int .i64 i) w := by kernel_rfl
theorem ixB (w : World) (i k : Int) : (Instr.index 133 (.agg #[.int .i64 i, .int .i64 k]) (.int .i64 1)).run Try.prog w = .ok (.int .i64 k) w := by kernel_rfl
set_option maxHeartbeats 1600000 in
theorem page_ok {w : World} {m : Option Addr} {e : Int → Int → Ent} {ok : Int → Int → Bool} (h : EntryIs w (.pointer m) e ok) (root i k : Int) :
    Calls Try.prog 83 #[.pointer m, .int .i64 root, .int .i64 i, .int .i64 k] w fun r w' => r = .returned (.tuple #[(pgE e ok root i k).val, .int .u8 (pgF e ok root i k)]) ∧ Keep nob w w' := by
  have H1 := Lib.hid (fun W (K : Keep nob w W) => h W K root i)
  have H2 := Lib.hid (fun W (K : Keep nob w W) => h W K (e root i).f k)
  unfold pgE pgF
  obtain ⟨o1, ho1⟩ : ∃ o, o = ok root i := ⟨_, rfl⟩
  obtain ⟨o2, ho2⟩ : ∃ o, o = ok (e root i).f k := ⟨_, rfl⟩
  obtain ⟨y2, hy2⟩ : ∃ y, y = e (e root i).f k := ⟨_, rfl⟩
  rw [← ho1] at H1 ⊢
  rw [← ho2, ← hy2] at H2 ⊢
  clear ho1 ho2 hy2 h
  obtain ⟨y1, hy1⟩ : ∃ y, y = e root i := ⟨_, rfl⟩
  rw [← hy1] at H1 H2 ⊢
  clear hy1
  obtain ⟨p1, q1, c1, f1⟩ := y1
  obtain ⟨p2, q2, c2, f2⟩ := y2
  unfold Ent.val at H1 H2
  simp only [] at H2
  have hA := ixA
  have hB := ixB
  have hcase : o1 = false ∨ o1 = true ∧ p1 = false ∨ o1 = true ∧ p1 = true ∧ o2 = false ∨ o1 = true ∧ p1 = true ∧ o2 = true ∧ p2 = false ∨ o1 = true ∧ p1 = true ∧ o2 = true ∧ p2 = true := by
    cases o1 <;> cases p1 <;> cases o2 <;> cases p2 <;> simp
  rcases hcase with rfl | ⟨rfl, rfl⟩ | ⟨rfl, rfl, rfl⟩ | ⟨rfl, rfl, rfl, rfl⟩ | ⟨rfl, rfl, rfl, rfl⟩
  all_goals
    simp (config := { failIfUnchanged := false }) only [Bool.false_and, Bool.and_false, Bool.true_and, Bool.and_true, Bool.and_self, Bool.false_eq_true, if_false, if_true]
    (first | unfold Ent.val Ent.zero | unfold Ent.val)
    have E0 := Lib.hid (EntAt.new w false false false 0 47)
    go_enter Try.func83, Try.ntmps83
    go_wp2_with fail
    go_step3
    go_wp2_with fail
    go_step3
    go_wp2_with fail
    refine wp_loop_rounds 3 ?_
    rw [rounds_succ]
    go_wp2_with fail
    refine Calls.mono (H1.out _ ((Keep.refl _ _).alloc _)) ?_
    rintro r w1 ⟨rfl, K1⟩
    obtain ⟨d0, d1, d2, d3, z0, z1, z2, z3⟩ := E0.out.next K1
    have E1 := Lib.hid (fun p' q' c' f' => (E0.out.next K1).put (p' := p') (q' := q') (c' := c') (f' := f'))
    have A1 := Lib.hid ((((Keep.refl nob w).alloc _).then K1))
    clear K1 E0 H1
    go_wp2_with fail
  · skip
    rw [Exit.noGoto_ret]
    refine bodyPost_ret (results_ent rfl _ _ w.heap.size (E1.out p1 q1 c1 f1).put rfl (.int .u8 6) rfl) rfl ⟨rfl, ?_⟩
    repeat (refine Keep.setCell ?_ _ (Or.inl (Nat.le_refl _)))
    exact A1.out
  · skip
    rw [Exit.noGoto_ret]
    refine bodyPost_ret (results_ent rfl _ _ w.heap.size (E1.out false q1 c1 f1).put rfl (.int .u8 2) rfl) rfl ⟨rfl, ?_⟩
    repeat (refine Keep.setCell ?_ _ (Or.inl (Nat.le_refl _)))
    exact A1.out
  · skip
    have A2 := Lib.hid ((((A1.out.fresh (b := w.heap.size) 0 (.bool true) (Nat.le_refl _)).fresh (b := w.heap.size) 1 (.bool q1) (Nat.le_refl _)).fresh (b := w.heap.size) 2 (.bool c1) (Nat.le_refl _)).fresh (b := w.heap.size) 3 (.int .i64 f1) (Nat.le_refl _))
    rw [rounds_succ]
    go_wp2_with fail
    refine Calls.mono (H2.out _ A2.out) ?_
    rintro r w2 ⟨rfl, K2⟩
    have F2 := Lib.hid (fun p' q' c' f' => ((E1.out true q1 c1 f1).next K2).put (p' := p') (q' := q') (c' := c') (f' := f'))
    obtain ⟨d0, d1, d2, d3, z0, z1, z2, z3⟩ := (E1.out true q1 c1 f1).next K2
    have A3 := Lib.hid (A2.out.then K2)
    clear K2 E1 H2 A2 A1
    go_wp2_with fail
    rw [Exit.noGoto_ret]
    refine bodyPost_ret (results_ent rfl _ _ w.heap.size (F2.out p2 q2 c2 f2).put rfl (.int .u8 6) rfl) rfl ⟨rfl, ?_⟩
    repeat (refine Keep.setCell ?_ _ (Or.inl (Nat.le_refl _)))
    exact A3.out
  · skip
    have A2 := Lib.hid ((((A1.out.fresh (b := w.heap.size) 0 (.bool true) (Nat.le_refl _)).fresh (b := w.heap.size) 1 (.bool q1) (Nat.le_refl _)).fresh (b := w.heap.size) 2 (.bool c1) (Nat.le_refl _)).fresh (b := w.heap.size) 3 (.int .i64 f1) (Nat.le_refl _))
    rw [rounds_succ]
    go_wp2_with fail
    refine Calls.mono (H2.out _ A2.out) ?_
    rintro r w2 ⟨rfl, K2⟩
    have F2 := Lib.hid (fun p' q' c' f' => ((E1.out true q1 c1 f1).next K2).put (p' := p') (q' := q') (c' := c') (f' := f'))
    obtain ⟨d0, d1, d2, d3, z0, z1, z2, z3⟩ := (E1.out true q1 c1 f1).next K2
    have A3 := Lib.hid (A2.out.then K2)
    clear K2 E1 H2 A2 A1
    go_wp2_with fail
    rw [Exit.noGoto_ret]
    refine bodyPost_ret (results_ent rfl _ _ w.heap.size (F2.out false q2 c2 f2).put rfl (.int .u8 3) rfl) rfl ⟨rfl, ?_⟩
    repeat (refine Keep.setCell ?_ _ (Or.inl (Nat.le_refl _)))
    exact A3.out
  · skip
    have A2 := Lib.hid ((((A1.out.fresh (b := w.heap.size) 0 (.bool true) (Nat.le_refl _)).fresh (b := w.heap.size) 1 (.bool q1) (Nat.le_refl _)).fresh (b := w.heap.size) 2 (.bool c1) (Nat.le_refl _)).fresh (b := w.heap.size) 3 (.int .i64 f1) (Nat.le_refl _))
    rw [rounds_succ]
    go_wp2_with fail
    refine Calls.mono (H2.out _ A2.out) ?_
    rintro r w2 ⟨rfl, K2⟩
    have F2 := Lib.hid (fun p' q' c' f' => ((E1.out true q1 c1 f1).next K2).put (p' := p') (q' := q') (c' := c') (f' := f'))
    obtain ⟨d0, d1, d2, d3, z0, z1, z2, z3⟩ := (E1.out true q1 c1 f1).next K2
    have A3 := Lib.hid (A2.out.then K2)
    clear K2 E1 H2 A2 A1
    go_wp2_with fail
    rw [rounds_succ]
    go_wp2_with fail
    rw [Exit.noGoto_ret]
    refine bodyPost_ret (results_ent rfl _ _ w.heap.size (F2.out true q2 c2 f2).put rfl (.int .u8 0) rfl) rfl ⟨rfl, ?_⟩
    repeat (refine Keep.setCell ?_ _ (Or.inl (Nat.le_refl _)))
    exact A3.out
end Go.Proofs.Ytkkkmaigcnpmeaa

/- Package walk, and what a walk from a space's root finds. -/
import Derived.Test.YtepmljcapobodaaDoorMem2
import Derived.Test.YtepmljcapobodaaDoorWord3
import Derived.Test.YtepmljcapobodaaDoorOwn
import Derived.Deep.QuietTactic
import Derived.BigQuiet
import Derived.Test.YtepmljcapobodaaDoorEntAt
import Derived.Test.YtepmljcapobodaaDoorPtSt
section
namespace Go.Proofs.YtepmljcapobodaaDoor
open Go.RowKit
set_option linter.unusedVariables false
set_option maxRecDepth 100000
/-- The word at a place, 0 where there is none. -/
def rdW (n : Nat) (c : Nat → Int) (t p : Int) : Int := if inR n t p then c (t.toNat * 32 + p.toNat) else 0
/-- Is a table's place an entry, of a frame that there is? -/
def entOk (n : Nat) (c : Nat → Int) (t p : Int) : Bool :=
  decide (inR n t p) && decide (gchk (rdW n c t p) = 0) && !((getR (rdW n c t p)).p && decide ((n : Int) ≤ (getR (rdW n c t p)).f))
def entE (n : Nat) (c : Nat → Int) (t p : Int) : Ent := if entOk n c t p then getR (rdW n c t p) else Ent.zero
def EntryIs (w : World) (m : Value) (e : Int → Int → Ent) (ok : Int → Int → Bool) : Prop :=
  ∀ W, Keep nob w W → ∀ t p, Calls Tryd.prog 102 #[.agg #[m], .int .i64 t, .int .i64 p] W fun r w' => r = .returned (.tuple #[(e t p).val, .bool (ok t p)]) ∧ Keep nob W w'
theorem EntryIs.next {w w' : World} {m : Value} {e : Int → Int → Ent} {ok : Int → Int → Bool} (h : EntryIs w m e ok) (k : Keep nob w w') : EntryIs w' m e ok := fun W K t p => h W (k.then K) t p
set_option maxHeartbeats 800000 in
theorem entry_bad {m : Value} {t p : Int} {code : Int} (hc : code = 1 ∨ code = 2) (w : World) (RD : ∀ W, Keep nob w W → Calls Tryd.prog 95 #[m, .int .i64 t, .int .i64 p] W fun r w' => r = .returned (.tuple #[.int .u32 0, .int .i64 code]) ∧ Keep nob W w') :
    Calls Tryd.prog 102 #[.agg #[m], .int .i64 t, .int .i64 p] w fun r w' => r = .returned (.tuple #[Ent.zero.val, .bool false]) ∧ Keep nob w w' := by
  replace RD := Lib.hid RD
  have GT := Lib.hid (fun W => get_ok 0 W (by decide) (by decide))
  have h0 : getR 0 = Ent.zero := by decide
  have h1 : gchk 0 = 0 := by decide
  rw [h0, h1] at GT
  have hcc : (code != 0) = true := by rcases hc with rfl | rfl <;> rfl
  clear h0 h1 hc
  unfold Ent.val Ent.zero at *
  go_enter Tryd.func102, Tryd.ntmps102
  go_wp2_with fail
  refine Calls.mono (RD.out _ (((Keep.refl _ _).alloc _).alloc _)) ?_
  rintro r w1 ⟨rfl, K1⟩
  have E1 := Lib.hid ((EntAt.newAt w _ _ _ _ _ _).next K1)
  have A1 := Lib.hid ((((Keep.refl nob w).alloc _).alloc _).then K1)
  clear K1 RD
  go_wp2_with fail
  refine Calls.mono (GT.out _) ?_
  rintro r w2 ⟨rfl, K2⟩
  obtain ⟨c0, c1, c2, c3, z0, z1, z2, z3⟩ := E1.out.next K2
  have A2 := Lib.hid (A1.out.then K2)
  have hb := World.block_lt_of_cell? _ _ c0
  clear K2 GT A1 E1
  go_wp2_with fail
  go_quiet (fail)
  go_wp2_with fail
  refine bodyPost_ret (v := .tuple #[.agg #[.bool false, .bool false, .bool false, .int .i64 0], .bool false]) (by rw [results_cell_tmp rfl]; go_simp) rfl ⟨rfl, ?_⟩
  repeat (refine Keep.setCell ?_ _ (Or.inl (Nat.le_succ _)))
  exact ((A2.out.alloc _).drewN _)
set_option maxHeartbeats 1600000 in
theorem entry_in {w : World} {b f n : Nat} {c : Nat → Int} (M : MemAt w b f n c) (t p : Int) (h : inR n t p) :
    Calls Tryd.prog 102 #[.agg #[.pointer (some ⟨b, 0, none⟩)], .int .i64 t, .int .i64 p] w fun r w' => r = .returned (.tuple #[(entE n c t p).val, .bool (entOk n c t p)]) ∧ Keep nob w w' := by
  have RD := Lib.hid (fun W (K : Keep nob w W) => read_in (M.next K) t p h.1 h.2.1 h.2.2.1 h.2.2.2)
  have FR := Lib.hid (fun W (K : Keep nob w W) => frames_at (M.next K))
  have hx := M.rng (t.toNat * 32 + p.toNat)
  obtain ⟨x, ex⟩ : ∃ x, x = c (t.toNat * 32 + p.toNat) := ⟨_, rfl⟩
  rw [← ex] at RD hx
  have GT := Lib.hid (fun W => get_ok x W hx.1 hx.2)
  have hr : rdW n c t p = x := by unfold rdW; rw [if_pos h, ex]
  have ho : entOk n c t p = (decide (gchk x = 0) && !((getR x).p && decide ((n : Int) ≤ (getR x).f))) := by unfold entOk; rw [hr, decide_eq_true h, Bool.true_and]
  have he : entE n c t p = if entOk n c t p then getR x else Ent.zero := by unfold entE; rw [hr]
  rw [he, ho]
  clear he ho hr ex M hx h
  obtain ⟨C, hC⟩ : ∃ C, C = gchk x := ⟨_, rfl⟩
  obtain ⟨y, hy⟩ : ∃ y, y = getR x := ⟨_, rfl⟩
  rw [← hC, ← hy] at GT ⊢
  clear hC hy
  obtain ⟨yp, yq, yc, yf⟩ := y
  obtain ⟨T2, t2⟩ : ∃ T, decide ((n : Int) ≤ yf) = T := ⟨_, rfl⟩
  have hcase : ¬ C = 0 ∨ C = 0 ∧ yp = false ∨ C = 0 ∧ yp = true ∧ T2 = true ∨ C = 0 ∧ yp = true ∧ T2 = false := by
    by_cases h0 : C = 0
    · cases yp
      · exact Or.inr (Or.inl ⟨h0, rfl⟩)
      · cases T2
        · exact Or.inr (Or.inr (Or.inr ⟨h0, rfl, rfl⟩))
        · exact Or.inr (Or.inr (Or.inl ⟨h0, rfl, rfl⟩))
    · exact Or.inl h0
  rcases hcase with h0 | ⟨rfl, rfl⟩ | ⟨rfl, rfl, rfl⟩ | ⟨rfl, rfl, rfl⟩
  · have t1 : (C != 0) = true := by simpa using h0
    have e1 : decide (C = 0) = false := decide_eq_false h0
    have H0 := Lib.hid h0
    simp only [e1, Bool.false_and, Bool.false_eq_true, if_false]
    clear h0 e1 FR t2
    unfold Ent.val Ent.zero at *
    go_enter Tryd.func102, Tryd.ntmps102
    go_wp2_with fail
    refine Calls.mono (RD.out _ (((Keep.refl _ _).alloc _).alloc _)) ?_
    rintro r w1 ⟨rfl, K1⟩
    have E1 := Lib.hid ((EntAt.newAt w _ _ _ _ _ _).next K1)
    have A1 := Lib.hid ((((Keep.refl nob w).alloc _).alloc _).then K1)
    clear K1 RD
    go_wp2_with fail
    refine Calls.mono (GT.out _) ?_
    rintro r w2 ⟨rfl, K2⟩
    obtain ⟨c0, c1, c2, c3, z0, z1, z2, z3⟩ := E1.out.next K2
    have A2 := Lib.hid (A1.out.then K2)
    have hb := World.block_lt_of_cell? _ _ c0
    clear K2 GT A1 E1
    go_wp2_with fail
    go_quiet (fail)
    go_wp2_with fail
    refine bodyPost_ret (v := .tuple #[.agg #[.bool false, .bool false, .bool false, .int .i64 0], .bool false]) (by rw [results_cell_tmp rfl]; go_simp) rfl ⟨rfl, ?_⟩
    repeat (refine Keep.setCell ?_ _ (Or.inl (Nat.le_succ _)))
    exact ((A2.out.alloc _).drewN _)
  · clear FR t2
    unfold Ent.val Ent.zero at *
    go_enter Tryd.func102, Tryd.ntmps102
    go_wp2_with fail
    refine Calls.mono (RD.out _ (((Keep.refl _ _).alloc _).alloc _)) ?_
    rintro r w1 ⟨rfl, K1⟩
    have E1 := Lib.hid ((EntAt.newAt w _ _ _ _ _ _).next K1)
    have A1 := Lib.hid ((((Keep.refl nob w).alloc _).alloc _).then K1)
    clear K1 RD
    go_wp2_with fail
    refine Calls.mono (GT.out _) ?_
    rintro r w2 ⟨rfl, K2⟩
    obtain ⟨c0, c1, c2, c3, z0, z1, z2, z3⟩ := E1.out.next K2
    have A2 := Lib.hid (A1.out.then K2)
    have hb := World.block_lt_of_cell? _ _ c0
    clear K2 GT A1 E1
    go_wp2_with fail
    go_quiet (fail)
    go_wp2_with fail
    refine bodyPost_ret (v := .tuple #[.agg #[.bool false, .bool yq, .bool yc, .int .i64 yf], .bool true]) (by rw [results_cell_tmp rfl]; go_simp) rfl ⟨rfl, ?_⟩
    repeat (refine Keep.setCell ?_ _ (Or.inl (Nat.le_succ _)))
    exact ((A2.out.alloc _).drewN _)
  all_goals
    unfold Ent.val Ent.zero at *
    go_enter Tryd.func102, Tryd.ntmps102
    go_wp2_with fail
    refine Calls.mono (RD.out _ (((Keep.refl _ _).alloc _).alloc _)) ?_
    rintro r w1 ⟨rfl, K1⟩
    have E1 := Lib.hid ((EntAt.newAt w _ _ _ _ _ _).next K1)
    have A1 := Lib.hid ((((Keep.refl nob w).alloc _).alloc _).then K1)
    have p1 := K1.some (p := ⟨w.heap.size, 0, none⟩) (v := .pointer (some ⟨b, 0, none⟩)) (by go_simp) (fun x => x)
    clear K1 RD
    go_wp2_with fail
    refine Calls.mono (GT.out _) ?_
    rintro r w2 ⟨rfl, K2⟩
    obtain ⟨c0, c1, c2, c3, z0, z1, z2, z3⟩ := E1.out.next K2
    replace p1 := K2.some p1 (fun x => x)
    have hb0 := World.block_lt_of_cell? _ _ p1
    have A2 := Lib.hid (A1.out.then K2)
    have hb := World.block_lt_of_cell? _ _ c0
    clear K2 GT A1 E1
    go_wp2_with fail
    go_quiet ((go_at_call 51; exact Calls.quiet_of_same ((FR.out _ ((A2.out.alloc _).drewN _)).mono (fun _ _ q => ⟨q.1, q.2.symm⟩))))
    go_wp2_with fail
    all_goals first
      | (refine bodyPost_ret (v := .tuple #[.agg #[.bool false, .bool false, .bool false, .int .i64 0], .bool false]) (by rw [results_cell_tmp rfl]; go_simp) rfl ⟨rfl, ?_⟩
         (repeat (refine Keep.setCell ?_ _ (Or.inl (Nat.le_succ _))))
         exact ((A2.out.alloc _).drewN _))
      | (refine bodyPost_ret (v := .tuple #[.agg #[.bool true, .bool yq, .bool yc, .int .i64 yf], .bool true]) (by rw [results_cell_tmp rfl]; go_simp) rfl ⟨rfl, ?_⟩
         (repeat (refine Keep.setCell ?_ _ (Or.inl (Nat.le_succ _))))
         exact ((A2.out.alloc _).drewN _))
theorem entry_at {w : World} {b f n : Nat} {c : Nat → Int} (M : MemAt w b f n c) : EntryIs w (.pointer (some ⟨b, 0, none⟩)) (entE n c) (entOk n c) := by
  intro W K t p
  by_cases h : inR n t p
  · exact entry_in (M.next K) t p h
  · have ho : entOk n c t p = false := by unfold entOk; rw [decide_eq_false h, Bool.false_and, Bool.false_and]
    have he : entE n c t p = Ent.zero := by unfold entE; rw [ho]; rfl
    rw [ho, he]
    exact entry_bad (Or.inr rfl) W (fun W1 K1 => read_out ((M.next K).next K1) t p h)
theorem entry_none {w : World} {v : Value} (h : NoMem w v) : EntryIs w v (fun _ _ => Ent.zero) (fun _ _ => false) := by
  intro W K t p
  exact entry_bad (Or.inl rfl) W (fun W1 K1 => read_none ((h.next K).next K1) t p)
end Go.Proofs.YtepmljcapobodaaDoor
end
section
namespace Go.Proofs.YtepmljcapobodaaDoor
open Go.RowKit
set_option linter.unusedVariables false
set_option linter.unusedSimpArgs false
set_option maxRecDepth 100000
section
variable (e : Int → Int → Ent) (ok : Int → Int → Bool)
def pgF (root i k : Int) : Int := if ok root i then (if (e root i).p then (if ok (e root i).f k then (if (e (e root i).f k).p then 0 else 3) else 6) else 2) else 6
def pgE (root i k : Int) : Ent := if ok root i && (e root i).p && ok (e root i).f k && (e (e root i).f k).p then e (e root i).f k else Ent.zero
end
theorem ixA (w : World) (i k : Int) : (Instr.index 173 (.agg #[.int .i64 i, .int .i64 k]) (.int .i64 0)).run Tryd.prog w = .ok (.int .i64 i) w := by kernel_rfl
theorem ixB (w : World) (i k : Int) : (Instr.index 173 (.agg #[.int .i64 i, .int .i64 k]) (.int .i64 1)).run Tryd.prog w = .ok (.int .i64 k) w := by kernel_rfl
set_option maxHeartbeats 1600000 in
theorem page_ok {w : World} {m : Option Addr} {e : Int → Int → Ent} {ok : Int → Int → Bool} (h : EntryIs w (.pointer m) e ok) (root i k : Int) :
    Calls Tryd.prog 86 #[.pointer m, .int .i64 root, .int .i64 i, .int .i64 k] w fun r w' => r = .returned (.tuple #[(pgE e ok root i k).val, .int .u8 (pgF e ok root i k)]) ∧ Keep nob w w' := by
  have H1 := Lib.hid (fun W (K : Keep nob w W) => h W K root i)
  have H2 := Lib.hid (fun W (K : Keep nob w W) => h W K (e root i).f k)
  unfold pgE pgF
  obtain ⟨o1, ho1⟩ : ∃ o, o = ok root i := ⟨_, rfl⟩
  obtain ⟨o2, ho2⟩ : ∃ o, o = ok (e root i).f k := ⟨_, rfl⟩
  obtain ⟨y2, hy2⟩ : ∃ y, y = e (e root i).f k := ⟨_, rfl⟩
  rw [← ho1] at H1 ⊢
  rw [← ho2, ← hy2] at H2 ⊢
  clear ho1 ho2 hy2 h
  obtain ⟨y1, hy1⟩ : ∃ y, y = e root i := ⟨_, rfl⟩
  rw [← hy1] at H1 H2 ⊢
  clear hy1
  obtain ⟨p1, q1, c1, f1⟩ := y1
  obtain ⟨p2, q2, c2, f2⟩ := y2
  unfold Ent.val at H1 H2
  simp only [] at H2
  have hA := ixA
  have hB := ixB
  have hcase : o1 = false ∨ o1 = true ∧ p1 = false ∨ o1 = true ∧ p1 = true ∧ o2 = false ∨ o1 = true ∧ p1 = true ∧ o2 = true ∧ p2 = false ∨ o1 = true ∧ p1 = true ∧ o2 = true ∧ p2 = true := by
    cases o1 <;> cases p1 <;> cases o2 <;> cases p2 <;> simp
  rcases hcase with rfl | ⟨rfl, rfl⟩ | ⟨rfl, rfl, rfl⟩ | ⟨rfl, rfl, rfl, rfl⟩ | ⟨rfl, rfl, rfl, rfl⟩
  all_goals
    simp (config := { failIfUnchanged := false }) only [Bool.false_and, Bool.and_false, Bool.true_and, Bool.and_true, Bool.and_self, Bool.false_eq_true, if_false, if_true]
    (first | unfold Ent.val Ent.zero | unfold Ent.val)
    have E0 := Lib.hid (EntAt.new w false false false 0 69)
    go_enter Tryd.func86, Tryd.ntmps86
    go_wp2_with fail
    go_step3
    go_wp2_with fail
    go_step3
    go_wp2_with fail
    refine wp_loop_rounds 3 ?_
    rw [rounds_succ]
    go_wp2_with fail
    refine Calls.mono (H1.out _ ((Keep.refl _ _).alloc _)) ?_
    rintro r w1 ⟨rfl, K1⟩
    obtain ⟨d0, d1, d2, d3, z0, z1, z2, z3⟩ := E0.out.next K1
    have E1 := Lib.hid (fun p' q' c' f' => (E0.out.next K1).put (p' := p') (q' := q') (c' := c') (f' := f'))
    have A1 := Lib.hid ((((Keep.refl nob w).alloc _).then K1))
    clear K1 E0 H1
    go_wp2_with fail
  · skip
    rw [Exit.noGoto_ret]
    refine bodyPost_ret (results_ent rfl _ _ w.heap.size (E1.out p1 q1 c1 f1).put rfl (.int .u8 6) rfl) rfl ⟨rfl, ?_⟩
    repeat (refine Keep.setCell ?_ _ (Or.inl (Nat.le_refl _)))
    exact A1.out
  · skip
    rw [Exit.noGoto_ret]
    refine bodyPost_ret (results_ent rfl _ _ w.heap.size (E1.out false q1 c1 f1).put rfl (.int .u8 2) rfl) rfl ⟨rfl, ?_⟩
    repeat (refine Keep.setCell ?_ _ (Or.inl (Nat.le_refl _)))
    exact A1.out
  · skip
    have A2 := Lib.hid ((((A1.out.fresh (b := w.heap.size) 0 (.bool true) (Nat.le_refl _)).fresh (b := w.heap.size) 1 (.bool q1) (Nat.le_refl _)).fresh (b := w.heap.size) 2 (.bool c1) (Nat.le_refl _)).fresh (b := w.heap.size) 3 (.int .i64 f1) (Nat.le_refl _))
    rw [rounds_succ]
    go_wp2_with fail
    refine Calls.mono (H2.out _ A2.out) ?_
    rintro r w2 ⟨rfl, K2⟩
    have F2 := Lib.hid (fun p' q' c' f' => ((E1.out true q1 c1 f1).next K2).put (p' := p') (q' := q') (c' := c') (f' := f'))
    obtain ⟨d0, d1, d2, d3, z0, z1, z2, z3⟩ := (E1.out true q1 c1 f1).next K2
    have A3 := Lib.hid (A2.out.then K2)
    clear K2 E1 H2 A2 A1
    go_wp2_with fail
    rw [Exit.noGoto_ret]
    refine bodyPost_ret (results_ent rfl _ _ w.heap.size (F2.out p2 q2 c2 f2).put rfl (.int .u8 6) rfl) rfl ⟨rfl, ?_⟩
    repeat (refine Keep.setCell ?_ _ (Or.inl (Nat.le_refl _)))
    exact A3.out
  · skip
    have A2 := Lib.hid ((((A1.out.fresh (b := w.heap.size) 0 (.bool true) (Nat.le_refl _)).fresh (b := w.heap.size) 1 (.bool q1) (Nat.le_refl _)).fresh (b := w.heap.size) 2 (.bool c1) (Nat.le_refl _)).fresh (b := w.heap.size) 3 (.int .i64 f1) (Nat.le_refl _))
    rw [rounds_succ]
    go_wp2_with fail
    refine Calls.mono (H2.out _ A2.out) ?_
    rintro r w2 ⟨rfl, K2⟩
    have F2 := Lib.hid (fun p' q' c' f' => ((E1.out true q1 c1 f1).next K2).put (p' := p') (q' := q') (c' := c') (f' := f'))
    obtain ⟨d0, d1, d2, d3, z0, z1, z2, z3⟩ := (E1.out true q1 c1 f1).next K2
    have A3 := Lib.hid (A2.out.then K2)
    clear K2 E1 H2 A2 A1
    go_wp2_with fail
    rw [Exit.noGoto_ret]
    refine bodyPost_ret (results_ent rfl _ _ w.heap.size (F2.out false q2 c2 f2).put rfl (.int .u8 3) rfl) rfl ⟨rfl, ?_⟩
    repeat (refine Keep.setCell ?_ _ (Or.inl (Nat.le_refl _)))
    exact A3.out
  · skip
    have A2 := Lib.hid ((((A1.out.fresh (b := w.heap.size) 0 (.bool true) (Nat.le_refl _)).fresh (b := w.heap.size) 1 (.bool q1) (Nat.le_refl _)).fresh (b := w.heap.size) 2 (.bool c1) (Nat.le_refl _)).fresh (b := w.heap.size) 3 (.int .i64 f1) (Nat.le_refl _))
    rw [rounds_succ]
    go_wp2_with fail
    refine Calls.mono (H2.out _ A2.out) ?_
    rintro r w2 ⟨rfl, K2⟩
    have F2 := Lib.hid (fun p' q' c' f' => ((E1.out true q1 c1 f1).next K2).put (p' := p') (q' := q') (c' := c') (f' := f'))
    obtain ⟨d0, d1, d2, d3, z0, z1, z2, z3⟩ := (E1.out true q1 c1 f1).next K2
    have A3 := Lib.hid (A2.out.then K2)
    clear K2 E1 H2 A2 A1
    go_wp2_with fail
    rw [rounds_succ]
    go_wp2_with fail
    rw [Exit.noGoto_ret]
    refine bodyPost_ret (results_ent rfl _ _ w.heap.size (F2.out true q2 c2 f2).put rfl (.int .u8 0) rfl) rfl ⟨rfl, ?_⟩
    repeat (refine Keep.setCell ?_ _ (Or.inl (Nat.le_refl _)))
    exact A3.out
end Go.Proofs.YtepmljcapobodaaDoor
end
section
namespace Go.Proofs.YtepmljcapobodaaDoor
open Go.RowKit
set_option linter.unusedVariables false
set_option linter.unusedSimpArgs false
set_option maxRecDepth 100000
section
variable (e : Int → Int → Ent) (ok : Int → Int → Bool)
def atE (root va : Int) : Ent := pgE e ok root (va / 32 / 32) (va / 32 % 32)
def watF (root va : Int) (wr : Bool) : Int :=
  if 32768 ≤ va then 1 else if pgF e ok root (va / 32 / 32) (va / 32 % 32) = 0 then (if wr && (atE e ok root va).c then 5 else if wr && !(atE e ok root va).w then 4 else 0) else pgF e ok root (va / 32 / 32) (va / 32 % 32)
def atFr (root va : Int) (wr : Bool) : Int := if watF e ok root va wr = 0 then (atE e ok root va).f else 0
def atPl (root va : Int) (wr : Bool) : Int := if watF e ok root va wr = 0 then va % 32 else 0
end
set_option maxHeartbeats 1600000 in
theorem at_ok {w : World} {m : Option Addr} {e : Int → Int → Ent} {ok : Int → Int → Bool} (h : EntryIs w (.pointer m) e ok) (root va : Int) (wr : Bool) (h0 : 0 ≤ va) (h1 : va < 4294967296) :
    Calls Tryd.prog 50 #[.pointer m, .int .i64 root, .int .u32 va, .bool wr] w
      fun r w' => r = .returned (.tuple #[.int .i64 (atFr e ok root va wr), .int .i64 (atPl e ok root va wr), .int .u8 (watF e ok root va wr)]) ∧ Keep nob w w' := by
  unfold atFr atPl watF
  by_cases hv : 32768 ≤ va
  · simp only [if_pos hv]
    clear h
    go_enter Tryd.func50, Tryd.ntmps50
    go_wp2_with fail
    refine Calls.mono (cut_no va _ hv) ?_
    rintro r w1 ⟨rfl, rfl⟩
    go_wp2_with fail
    refine bodyPost_ret (v := .tuple #[.int .i64 0, .int .i64 0, .int .u8 1]) (by simp [results, Tryd.results50, go_sem]) rfl ⟨rfl, Keep.refl _ _⟩
  · simp only [if_neg hv]
    have PG := Lib.hid (page_ok h root (va / 32 / 32) (va / 32 % 32))
    unfold atE
    obtain ⟨F, hF⟩ : ∃ F, F = pgF e ok root (va / 32 / 32) (va / 32 % 32) := ⟨_, rfl⟩
    obtain ⟨x, hx⟩ : ∃ x, x = pgE e ok root (va / 32 / 32) (va / 32 % 32) := ⟨_, rfl⟩
    rw [← hF, ← hx] at PG ⊢
    clear hF hx h
    obtain ⟨p, q, c, f⟩ := x
    unfold Ent.val at PG
    by_cases h2 : F = 0
    · subst h2
      simp only [if_true]
      have CY := Lib.hid (fun W => cut_yes va W h0 (by omega))
      cases wr <;> cases c <;> cases q
      all_goals
        simp only [Bool.false_and, Bool.true_and, Bool.not_false, Bool.not_true, Bool.false_eq_true, if_true, if_false]
        go_enter Tryd.func50, Tryd.ntmps50
        go_wp2_with fail
        refine Calls.mono (CY.out _) ?_
        rintro r w1 ⟨rfl, rfl⟩
        go_wp2_with fail
        refine Calls.mono PG.out ?_
        rintro r w1 ⟨rfl, K⟩
        have A := Lib.hid (K.alloc (.cells #[.bool p, .bool false, .bool false, .int .i64 f] 69))
        go_wp2_with fail
        first
          | (refine bodyPost_ret (v := .tuple #[.int .i64 f, .int .i64 (va % 32), .int .u8 0]) (by simp [results, Tryd.results50, go_sem]) rfl ⟨rfl, K.alloc _⟩)
          | (refine bodyPost_ret (v := .tuple #[.int .i64 0, .int .i64 0, .int .u8 4]) (by simp [results, Tryd.results50, go_sem]) rfl ⟨rfl, K.alloc _⟩)
          | (refine bodyPost_ret (v := .tuple #[.int .i64 0, .int .i64 0, .int .u8 5]) (by simp [results, Tryd.results50, go_sem]) rfl ⟨rfl, K.alloc _⟩)
    · simp only [if_neg h2]
      have t1 : (F != 0) = true := by simpa using h2
      have CY := Lib.hid (fun W => cut_yes va W h0 (by omega))
      clear h2
      go_enter Tryd.func50, Tryd.ntmps50
      go_wp2_with fail
      refine Calls.mono (CY.out _) ?_
      rintro r w1 ⟨rfl, rfl⟩
      go_wp2_with fail
      refine Calls.mono PG.out ?_
      rintro r w1 ⟨rfl, K⟩
      go_wp2_with fail
      refine bodyPost_ret (v := .tuple #[.int .i64 0, .int .i64 0, .int .u8 F]) (by simp [results, Tryd.results50, go_sem]) rfl ⟨rfl, K.alloc _⟩
end Go.Proofs.YtepmljcapobodaaDoor
end
section
namespace Go.Proofs.YtepmljcapobodaaDoor
open Go.RowKit
set_option linter.unusedVariables false
set_option maxRecDepth 100000
theorem ent_of {n : Nat} {c : Nat → Int} {t p : Nat} (ht : t < n) (hp : p < 32) {e : Ent} (he : okE e = true) (hw : c (t * 32 + p) = putR e) (hf : e.p = true → e.f < n) : entOk n c t p = true ∧ entE n c t p = e := by
  have hi : inR n t p := ⟨by omega, by omega, by omega, by omega⟩
  have hr : rdW n c t p = putR e := by unfold rdW; rw [if_pos hi, Int.toNat_natCast, Int.toNat_natCast, hw]
  have hg : gchk (putR e) = 0 := by
    have ow : okW (putR e) = true := by
      have h0 : 0 ≤ e.f ∧ e.f < 1024 := by
        simp only [okE, Bool.and_eq_true, decide_eq_true_eq] at he
        exact he.1.1
      have eo : entOf (putW e) = e := by
        obtain ⟨p, w, c, f⟩ := e
        simp only at h0
        unfold entOf putW bit
        cases p <;> cases w <;> cases c <;> simp only [if_true, if_false, Bool.false_eq_true, Ent.mk.injEq, decide_eq_true_eq, decide_eq_false_iff_not] <;> refine ⟨?_, ?_, ?_, ?_⟩ <;> omega
      have : putR e = putW e := by unfold putR; rw [if_pos he]
      rw [this]
      simp [okW, eo, he]
    unfold gchk; rw [if_pos ow]
  have ok : entOk n c t p = true := by
    unfold entOk
    rw [hr, ent_back he, decide_eq_true hi, decide_eq_true hg]
    cases h : e.p with
    | false => rfl
    | true => rw [decide_eq_false (by have := hf h; omega)]; rfl
  refine ⟨ok, ?_⟩
  unfold entE
  rw [if_pos ok, hr, ent_back he]
theorem PInv.walk {B : PB} {many : Nat} {c : Nat → Int} {f g : Int → Int} {M : Nat → Nat → Ent} {T : Nat → Nat → Option Nat} (I : PInv B many c f g M T) (hn : B.n ≤ 1024) {r p : Nat} (hr : g (r : Int) ≠ 0) (hp : p < 1024) :
    ((M r p).p = true → pgF (entE B.n c) (entOk B.n c) r ((p / 32 : Nat) : Int) ((p % 32 : Nat) : Int) = 0 ∧ pgE (entE B.n c) (entOk B.n c) r ((p / 32 : Nat) : Int) ((p % 32 : Nat) : Int) = M r p) ∧
    ((M r p).p = false → pgF (entE B.n c) (entOk B.n c) r ((p / 32 : Nat) : Int) ((p % 32 : Nat) : Int) = 2 ∨ pgF (entE B.n c) (entOk B.n c) r ((p / 32 : Nat) : Int) ((p % 32 : Nat) : Int) = 3) := by
  have hm := I.hm
  have r0 := (I.hg r hr).1
  have row := I.cr r (p / 32) hr (by omega)
  cases e : T r (p / 32) with
  | none =>
    rw [e] at row
    obtain ⟨o, v⟩ := ent_of (n := B.n) (c := c) (t := r) (p := p / 32) (by omega) (by omega) ok_zero (by rw [put_zero]; exact row) (fun h => by cases h)
    refine ⟨fun h => ?_, fun _ => ?_⟩
    · rw [I.split e] at h; cases h
    · unfold pgF
      rw [o, v]
      exact Or.inl rfl
  | some k =>
    rw [e] at row
    have hk := (I.hT _ _ _ e).2.2.1
    obtain ⟨o, v⟩ := ent_of (n := B.n) (c := c) (t := r) (p := p / 32) (by omega) (by omega) (ok_table (k := (k : Int)) (by omega) (by omega)) row (fun _ => by show (k : Int) < B.n; omega)
    have tw := I.ct r (p / 32) k (p % 32) e (by omega)
    rw [show p / 32 * 32 + p % 32 = p by omega] at tw
    obtain ⟨o2, v2⟩ := ent_of (n := B.n) (c := c) (t := k) (p := p % 32) (by omega) (by omega) (I.okM r p) tw (fun h => by
      rcases I.mo r p with z | z
      · rw [z] at h; cases h
      · unfold fitB at z
        simp only [Bool.and_eq_true, decide_eq_true_eq] at z
        exact z.2)
    unfold pgF pgE
    rw [o, v]
    dsimp only
    rw [o2, v2]
    refine ⟨fun h => ?_, fun h => ?_⟩
    · rw [h]; exact ⟨rfl, rfl⟩
    · rw [h]; exact Or.inr rfl
/-- What a walk answers, of the mapping. -/
def wkF (E : Ent) (wr : Bool) : Int := if wr && E.c then 5 else if wr && !E.w then 4 else 0
/-- The walk from a space's root. -/
theorem st_walk {w : World} {A : MB} {B : PB} {many : Nat} {M : Nat → Nat → Ent} {g : Int → Int} {left q : Nat} (D : PtG A B) (S : PtSt w A B many M g left q) {r p a : Nat} (hr : g (r : Int) ≠ 0) (hp : p < 1024) (ha : a < 32) :
    ((M r p).p = true ∧ ∀ wr W, Keep nob w W → Calls Tryd.prog 50 #[.pointer (some ⟨B.b, 0, none⟩), .int .i64 r, .int .u32 ((p : Int) * 32 + a), .bool wr] W
      fun v w' => v = .returned (.tuple #[.int .i64 (if wkF (M r p) wr = 0 then (M r p).f else 0), .int .i64 (if wkF (M r p) wr = 0 then a else 0), .int .u8 (wkF (M r p) wr)]) ∧ Keep nob W w') ∨
    ((M r p).p = false ∧ ∃ F, (F = 2 ∨ F = 3) ∧ ∀ wr W, Keep nob w W → Calls Tryd.prog 50 #[.pointer (some ⟨B.b, 0, none⟩), .int .i64 r, .int .u32 ((p : Int) * 32 + a), .bool wr] W
      fun v w' => v = .returned (.tuple #[.int .i64 0, .int .i64 0, .int .u8 F]) ∧ Keep nob W w') := by
  obtain ⟨c, f, T, X, I, F, L, R⟩ := S
  obtain ⟨w1, w2⟩ := I.walk D.G.n hr hp
  have E := entry_at X.P.mem
  have n1 : ¬ (32768 : Int) ≤ (p : Int) * 32 + a := by omega
  have d1 : ((p : Int) * 32 + a) / 32 / 32 = ((p / 32 : Nat) : Int) := by omega
  have d2 : ((p : Int) * 32 + a) / 32 % 32 = ((p % 32 : Nat) : Int) := by omega
  have d3 : ((p : Int) * 32 + a) % 32 = a := by omega
  cases h : (M r p).p with
  | true =>
    obtain ⟨e1, e2⟩ := w1 h
    refine Or.inl ⟨rfl, fun wr W k => (at_ok (E.next k) r ((p : Int) * 32 + a) wr (by omega) (by omega)).mono fun v w' q => ⟨q.1.trans ?_, q.2⟩⟩
    have eF : watF (entE B.n c) (entOk B.n c) r ((p : Int) * 32 + a) wr = wkF (M r p) wr := by
      unfold watF atE wkF
      rw [if_neg n1, d1, d2, e1, e2, if_pos rfl]
    unfold atFr atPl
    rw [eF, d3]
    unfold atE
    rw [d1, d2, e2]
  | false =>
    refine Or.inr ⟨rfl, _, w2 h, fun wr W k => (at_ok (E.next k) r ((p : Int) * 32 + a) wr (by omega) (by omega)).mono fun v w' q => ⟨q.1.trans ?_, q.2⟩⟩
    have nz : pgF (entE B.n c) (entOk B.n c) r ((p / 32 : Nat) : Int) ((p % 32 : Nat) : Int) ≠ 0 := by rcases w2 h with z | z <;> rw [z] <;> decide
    have eF : watF (entE B.n c) (entOk B.n c) r ((p : Int) * 32 + a) wr = pgF (entE B.n c) (entOk B.n c) r ((p / 32 : Nat) : Int) ((p % 32 : Nat) : Int) := by
      unfold watF
      rw [if_neg n1, d1, d2, if_neg nz]
    unfold atFr atPl
    rw [eF, if_neg nz, if_neg nz]
end Go.Proofs.YtepmljcapobodaaDoor
end

/- Contracts of package walk: a table's entry, on a memory and on the reference's. -/
import Derived.Test.YtkkkmaigcnpmeaaRef3
import Derived.Test.YtkkkmaigcnpmeaaWord4
import Derived.Test.YtkkkmaigcnpmeaaOwn
import Derived.Deep.QuietTactic
import Derived.BigQuiet
namespace Go.Proofs.Ytkkkmaigcnpmeaa
open Go.RowKit
set_option linter.unusedVariables false
set_option maxRecDepth 100000
/-- The word at a place, 0 where there is none. -/
def rdW (n : Nat) (c : Nat → Int) (t p : Int) : Int := if inR n t p then c (t.toNat * 32 + p.toNat) else 0
/-- Is a table's place an entry, of a frame that there is? -/
def entOk (n : Nat) (c : Nat → Int) (t p : Int) : Bool :=
  decide (inR n t p) && decide (gchk (rdW n c t p) = 0) && !((getR (rdW n c t p)).p && decide ((n : Int) ≤ (getR (rdW n c t p)).f))
def entE (n : Nat) (c : Nat → Int) (t p : Int) : Ent := if entOk n c t p then getR (rdW n c t p) else Ent.zero
def EntryIs (w : World) (m : Value) (e : Int → Int → Ent) (ok : Int → Int → Bool) : Prop :=
  ∀ W, Keep nob w W → ∀ t p, Calls Try.prog 85 #[.agg #[m], .int .i64 t, .int .i64 p] W fun r w' => r = .returned (.tuple #[(e t p).val, .bool (ok t p)]) ∧ Keep nob W w'
theorem EntryIs.next {w w' : World} {m : Value} {e : Int → Int → Ent} {ok : Int → Int → Bool} (h : EntryIs w m e ok) (k : Keep nob w w') : EntryIs w' m e ok := fun W K t p => h W (k.then K) t p
/-- An entry that lies in block b. -/
structure EntAt (w : World) (b : Nat) (p q c : Bool) (f : Int) : Prop where
  c0 : w.cell? ⟨b, 0, none⟩ = some (.bool p)
  c1 : w.cell? ⟨b, 1, none⟩ = some (.bool q)
  c2 : w.cell? ⟨b, 2, none⟩ = some (.bool c)
  c3 : w.cell? ⟨b, 3, none⟩ = some (.int .i64 f)
  z0 : w.frozen? ⟨b, 0, none⟩ = false
  z1 : w.frozen? ⟨b, 1, none⟩ = false
  z2 : w.frozen? ⟨b, 2, none⟩ = false
  z3 : w.frozen? ⟨b, 3, none⟩ = false
theorem EntAt.lt {w : World} {b : Nat} {p q c : Bool} {f : Int} (h : EntAt w b p q c f) : b < w.heap.size := World.block_lt_of_cell? _ _ h.c0
theorem EntAt.keep {w w' : World} {b : Nat} {p q c : Bool} {f : Int} {S : Nat → Prop} (h : EntAt w b p q c f) (k : Keep S w w') (hs : ¬ S b) : EntAt w' b p q c f :=
  ⟨k.some h.c0 hs, k.some h.c1 hs, k.some h.c2 hs, k.some h.c3 hs, (k.frozen (p := ⟨b, 0, none⟩) h.lt hs).trans h.z0, (k.frozen (p := ⟨b, 1, none⟩) h.lt hs).trans h.z1, (k.frozen (p := ⟨b, 2, none⟩) h.lt hs).trans h.z2, (k.frozen (p := ⟨b, 3, none⟩) h.lt hs).trans h.z3⟩
theorem EntAt.next {w w' : World} {b : Nat} {p q c : Bool} {f : Int} (h : EntAt w b p q c f) (k : Keep nob w w') : EntAt w' b p q c f := h.keep k (fun x => x)
theorem EntAt.new (w : World) (p q c : Bool) (f : Int) (t : TypeId) : EntAt (w.alloc (.cells #[.bool p, .bool q, .bool c, .int .i64 f] t)) w.heap.size p q c f :=
  ⟨new_at _ _ _ 0 _ rfl, new_at _ _ _ 1 _ rfl, new_at _ _ _ 2 _ rfl, new_at _ _ _ 3 _ rfl, new_free _ _ _ _, new_free _ _ _ _, new_free _ _ _ _, new_free _ _ _ _⟩
theorem EntAt.newAt (w : World) (o : Obj) (p q c : Bool) (f : Int) (t : TypeId) : EntAt ((w.alloc o).alloc (.cells #[.bool p, .bool q, .bool c, .int .i64 f] t)) (w.heap.size + 1) p q c f := by
  have := EntAt.new (w.alloc o) p q c f t
  rw [World.size_alloc] at this
  exact this
set_option maxHeartbeats 800000 in
theorem entry_bad {m : Value} {t p : Int} {code : Int} (hc : code = 1 ∨ code = 2) (w : World) (RD : ∀ W, Keep nob w W → Calls Try.prog 32 #[m, .int .i64 t, .int .i64 p] W fun r w' => r = .returned (.tuple #[.int .u32 0, .int .i64 code]) ∧ Keep nob W w') :
    Calls Try.prog 85 #[.agg #[m], .int .i64 t, .int .i64 p] w fun r w' => r = .returned (.tuple #[Ent.zero.val, .bool false]) ∧ Keep nob w w' := by
  replace RD := Lib.hid RD
  have GT := Lib.hid (fun W => get_ok 0 W (by decide) (by decide))
  have h0 : getR 0 = Ent.zero := by decide
  have h1 : gchk 0 = 0 := by decide
  rw [h0, h1] at GT
  have hcc : (code != 0) = true := by rcases hc with rfl | rfl <;> rfl
  clear h0 h1 hc
  unfold Ent.val Ent.zero at *
  go_enter Try.func85, Try.ntmps85
  go_wp2_with fail
  refine Calls.mono (RD.out _ (((Keep.refl _ _).alloc _).alloc _)) ?_
  rintro r w1 ⟨rfl, K1⟩
  have E1 := Lib.hid ((EntAt.newAt w _ _ _ _ _ _).next K1)
  have A1 := Lib.hid ((((Keep.refl nob w).alloc _).alloc _).then K1)
  clear K1 RD
  go_wp2_with fail
  refine Calls.mono (GT.out _) ?_
  rintro r w2 ⟨rfl, K2⟩
  obtain ⟨c0, c1, c2, c3, z0, z1, z2, z3⟩ := E1.out.next K2
  have A2 := Lib.hid (A1.out.then K2)
  have hb := World.block_lt_of_cell? _ _ c0
  clear K2 GT A1 E1
  go_wp2_with fail
  go_quiet (fail)
  go_wp2_with fail
  refine bodyPost_ret (v := .tuple #[.agg #[.bool false, .bool false, .bool false, .int .i64 0], .bool false]) (by rw [results_cell_tmp rfl]; go_simp) rfl ⟨rfl, ?_⟩
  repeat (refine Keep.setCell ?_ _ (Or.inl (Nat.le_succ _)))
  exact ((A2.out.alloc _).drewN _)
set_option maxHeartbeats 1600000 in
theorem entry_in {w : World} {b f n : Nat} {c : Nat → Int} (M : MemAt w b f n c) (t p : Int) (h : inR n t p) :
    Calls Try.prog 85 #[.agg #[.pointer (some ⟨b, 0, none⟩)], .int .i64 t, .int .i64 p] w fun r w' => r = .returned (.tuple #[(entE n c t p).val, .bool (entOk n c t p)]) ∧ Keep nob w w' := by
  have RD := Lib.hid (fun W (K : Keep nob w W) => read_in (M.next K) t p h.1 h.2.1 h.2.2.1 h.2.2.2)
  have FR := Lib.hid (fun W (K : Keep nob w W) => frames_at (M.next K))
  have hx := M.rng (t.toNat * 32 + p.toNat)
  obtain ⟨x, ex⟩ : ∃ x, x = c (t.toNat * 32 + p.toNat) := ⟨_, rfl⟩
  rw [← ex] at RD hx
  have GT := Lib.hid (fun W => get_ok x W hx.1 hx.2)
  have hr : rdW n c t p = x := by unfold rdW; rw [if_pos h, ex]
  have ho : entOk n c t p = (decide (gchk x = 0) && !((getR x).p && decide ((n : Int) ≤ (getR x).f))) := by unfold entOk; rw [hr, decide_eq_true h, Bool.true_and]
  have he : entE n c t p = if entOk n c t p then getR x else Ent.zero := by unfold entE; rw [hr]
  rw [he, ho]
  clear he ho hr ex M hx h
  obtain ⟨C, hC⟩ : ∃ C, C = gchk x := ⟨_, rfl⟩
  obtain ⟨y, hy⟩ : ∃ y, y = getR x := ⟨_, rfl⟩
  rw [← hC, ← hy] at GT ⊢
  clear hC hy
  obtain ⟨yp, yq, yc, yf⟩ := y
  obtain ⟨T2, t2⟩ : ∃ T, decide ((n : Int) ≤ yf) = T := ⟨_, rfl⟩
  have hcase : ¬ C = 0 ∨ C = 0 ∧ yp = false ∨ C = 0 ∧ yp = true ∧ T2 = true ∨ C = 0 ∧ yp = true ∧ T2 = false := by
    by_cases h0 : C = 0
    · cases yp
      · exact Or.inr (Or.inl ⟨h0, rfl⟩)
      · cases T2
        · exact Or.inr (Or.inr (Or.inr ⟨h0, rfl, rfl⟩))
        · exact Or.inr (Or.inr (Or.inl ⟨h0, rfl, rfl⟩))
    · exact Or.inl h0
  rcases hcase with h0 | ⟨rfl, rfl⟩ | ⟨rfl, rfl, rfl⟩ | ⟨rfl, rfl, rfl⟩
  · have t1 : (C != 0) = true := by simpa using h0
    have e1 : decide (C = 0) = false := decide_eq_false h0
    have H0 := Lib.hid h0
    simp only [e1, Bool.false_and, Bool.false_eq_true, if_false]
    clear h0 e1 FR t2
    unfold Ent.val Ent.zero at *
    go_enter Try.func85, Try.ntmps85
    go_wp2_with fail
    refine Calls.mono (RD.out _ (((Keep.refl _ _).alloc _).alloc _)) ?_
    rintro r w1 ⟨rfl, K1⟩
    have E1 := Lib.hid ((EntAt.newAt w _ _ _ _ _ _).next K1)
    have A1 := Lib.hid ((((Keep.refl nob w).alloc _).alloc _).then K1)
    clear K1 RD
    go_wp2_with fail
    refine Calls.mono (GT.out _) ?_
    rintro r w2 ⟨rfl, K2⟩
    obtain ⟨c0, c1, c2, c3, z0, z1, z2, z3⟩ := E1.out.next K2
    have A2 := Lib.hid (A1.out.then K2)
    have hb := World.block_lt_of_cell? _ _ c0
    clear K2 GT A1 E1
    go_wp2_with fail
    go_quiet (fail)
    go_wp2_with fail
    refine bodyPost_ret (v := .tuple #[.agg #[.bool false, .bool false, .bool false, .int .i64 0], .bool false]) (by rw [results_cell_tmp rfl]; go_simp) rfl ⟨rfl, ?_⟩
    repeat (refine Keep.setCell ?_ _ (Or.inl (Nat.le_succ _)))
    exact ((A2.out.alloc _).drewN _)
  · clear FR t2
    unfold Ent.val Ent.zero at *
    go_enter Try.func85, Try.ntmps85
    go_wp2_with fail
    refine Calls.mono (RD.out _ (((Keep.refl _ _).alloc _).alloc _)) ?_
    rintro r w1 ⟨rfl, K1⟩
    have E1 := Lib.hid ((EntAt.newAt w _ _ _ _ _ _).next K1)
    have A1 := Lib.hid ((((Keep.refl nob w).alloc _).alloc _).then K1)
    clear K1 RD
    go_wp2_with fail
    refine Calls.mono (GT.out _) ?_
    rintro r w2 ⟨rfl, K2⟩
    obtain ⟨c0, c1, c2, c3, z0, z1, z2, z3⟩ := E1.out.next K2
    have A2 := Lib.hid (A1.out.then K2)
    have hb := World.block_lt_of_cell? _ _ c0
    clear K2 GT A1 E1
    go_wp2_with fail
    go_quiet (fail)
    go_wp2_with fail
    refine bodyPost_ret (v := .tuple #[.agg #[.bool false, .bool yq, .bool yc, .int .i64 yf], .bool true]) (by rw [results_cell_tmp rfl]; go_simp) rfl ⟨rfl, ?_⟩
    repeat (refine Keep.setCell ?_ _ (Or.inl (Nat.le_succ _)))
    exact ((A2.out.alloc _).drewN _)
  all_goals
    unfold Ent.val Ent.zero at *
    go_enter Try.func85, Try.ntmps85
    go_wp2_with fail
    refine Calls.mono (RD.out _ (((Keep.refl _ _).alloc _).alloc _)) ?_
    rintro r w1 ⟨rfl, K1⟩
    have E1 := Lib.hid ((EntAt.newAt w _ _ _ _ _ _).next K1)
    have A1 := Lib.hid ((((Keep.refl nob w).alloc _).alloc _).then K1)
    have p1 := K1.some (p := ⟨w.heap.size, 0, none⟩) (v := .pointer (some ⟨b, 0, none⟩)) (by go_simp) (fun x => x)
    clear K1 RD
    go_wp2_with fail
    refine Calls.mono (GT.out _) ?_
    rintro r w2 ⟨rfl, K2⟩
    obtain ⟨c0, c1, c2, c3, z0, z1, z2, z3⟩ := E1.out.next K2
    replace p1 := K2.some p1 (fun x => x)
    have hb0 := World.block_lt_of_cell? _ _ p1
    have A2 := Lib.hid (A1.out.then K2)
    have hb := World.block_lt_of_cell? _ _ c0
    clear K2 GT A1 E1
    go_wp2_with fail
    go_quiet ((go_at_call 35; exact Calls.quiet_of_same ((FR.out _ ((A2.out.alloc _).drewN _)).mono (fun _ _ q => ⟨q.1, q.2.symm⟩))))
    go_wp2_with fail
    all_goals first
      | (refine bodyPost_ret (v := .tuple #[.agg #[.bool false, .bool false, .bool false, .int .i64 0], .bool false]) (by rw [results_cell_tmp rfl]; go_simp) rfl ⟨rfl, ?_⟩
         (repeat (refine Keep.setCell ?_ _ (Or.inl (Nat.le_succ _))))
         exact ((A2.out.alloc _).drewN _))
      | (refine bodyPost_ret (v := .tuple #[.agg #[.bool true, .bool yq, .bool yc, .int .i64 yf], .bool true]) (by rw [results_cell_tmp rfl]; go_simp) rfl ⟨rfl, ?_⟩
         (repeat (refine Keep.setCell ?_ _ (Or.inl (Nat.le_succ _))))
         exact ((A2.out.alloc _).drewN _))
theorem entry_at {w : World} {b f n : Nat} {c : Nat → Int} (M : MemAt w b f n c) : EntryIs w (.pointer (some ⟨b, 0, none⟩)) (entE n c) (entOk n c) := by
  intro W K t p
  by_cases h : inR n t p
  · exact entry_in (M.next K) t p h
  · have ho : entOk n c t p = false := by unfold entOk; rw [decide_eq_false h, Bool.false_and, Bool.false_and]
    have he : entE n c t p = Ent.zero := by unfold entE; rw [ho]; rfl
    rw [ho, he]
    exact entry_bad (Or.inr rfl) W (fun W1 K1 => read_out ((M.next K).next K1) t p h)
theorem entry_none {w : World} {v : Value} (h : NoMem w v) : EntryIs w v (fun _ _ => Ent.zero) (fun _ _ => false) := by
  intro W K t p
  exact entry_bad (Or.inl rfl) W (fun W1 K1 => read_none ((h.next K).next K1) t p)
end Go.Proofs.Ytkkkmaigcnpmeaa

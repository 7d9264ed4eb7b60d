/- Contracts of the reference's walk (prioryref03): an entry, a page's entry, an address. -/
import Derived.Test.YtkkkmaigcnpmeaaWalk4
namespace Go.Proofs.Ytkkkmaigcnpmeaa
open Go.RowKit
set_option linter.unusedVariables false
set_option linter.unusedSimpArgs false
set_option maxRecDepth 100000
def RefEntryIs (w : World) (g n : Nat) (e : Int → Int → Ent) (ok : Int → Int → Bool) : Prop :=
  ∀ W, Keep nob w W → ∀ t p, Calls Try.prog 86 #[.agg #[refV g n], .int .i64 t, .int .i64 p] W fun r w' => r = .returned (.tuple #[(e t p).val, .bool (ok t p)]) ∧ Keep nob W w'
theorem RefEntryIs.next {w w' : World} {g n : Nat} {e : Int → Int → Ent} {ok : Int → Int → Bool} (h : RefEntryIs w g n e ok) (k : Keep nob w w') : RefEntryIs w' g n e ok := fun W K t p => h W (k.then K) t p
set_option maxHeartbeats 1600000 in
theorem refentry_at {w : World} {g n : Nat} {c : Nat → Int} (M : RefAt w g n c) : RefEntryIs w g n (entE n c) (entOk n c) := by
  intro W K t p
  by_cases h : inR n t p
  · have RD := Lib.hid (fun W1 (K1 : Keep nob W W1) => refread_ok ((M.next K).next K1) t p)
    rw [if_pos h, if_pos h] at RD
    have hx := M.rng (t.toNat * 32 + p.toNat)
    obtain ⟨x, ex⟩ : ∃ x, x = c (t.toNat * 32 + p.toNat) := ⟨_, rfl⟩
    rw [← ex] at RD hx
    have GT := Lib.hid (fun W => refget_ok x W hx.1 hx.2)
    have hr : rdW n c t p = x := by unfold rdW; rw [if_pos h, ex]
    have ho : entOk n c t p = (decide (gchk x = 0) && !((getR x).p && decide ((n : Int) ≤ (getR x).f))) := by unfold entOk; rw [hr, decide_eq_true h, Bool.true_and]
    have he : entE n c t p = if entOk n c t p then getR x else Ent.zero := by unfold entE; rw [hr]
    rw [he, ho]
    have hi := M.hi
    clear he ho hr ex M hx h K
    unfold refV at *
    obtain ⟨C, hC⟩ : ∃ C, C = gchk x := ⟨_, rfl⟩
    obtain ⟨y, hy⟩ : ∃ y, y = getR x := ⟨_, rfl⟩
    rw [← hC, ← hy] at GT ⊢
    clear hC hy
    obtain ⟨yp, yq, yc, yf⟩ := y
    obtain ⟨T2, t2⟩ : ∃ T, decide ((n : Int) ≤ yf) = T := ⟨_, rfl⟩
    have t3 : decide (((n * 32 : Nat) : Int) / 32 ≤ yf) = T2 := by rw [← t2, show ((n * 32 : Nat) : Int) / 32 = n by omega]
    have t4 : decide ((n : Int) * 32 / 32 ≤ yf) = T2 := by rw [← t2, show (n : Int) * 32 / 32 = n by omega]
    have b2 : 0 ≤ ((n * 32 : Nat) : Int) := by omega
    have hcase : ¬ C = 0 ∨ C = 0 ∧ yp = false ∨ C = 0 ∧ yp = true ∧ T2 = true ∨ C = 0 ∧ yp = true ∧ T2 = false := by
      by_cases h0 : C = 0
      · cases yp
        · exact Or.inr (Or.inl ⟨h0, rfl⟩)
        · cases T2
          · exact Or.inr (Or.inr (Or.inr ⟨h0, rfl, rfl⟩))
          · exact Or.inr (Or.inr (Or.inl ⟨h0, rfl, rfl⟩))
      · exact Or.inl h0
    have E0 := Lib.hid (EntAt.newAt W (.cells #[.slice (some ⟨g, 0, none⟩) (n * 32) (n * 32)] 58) false false false 0 47)
    rcases hcase with h0 | ⟨rfl, rfl⟩ | ⟨rfl, rfl, rfl⟩ | ⟨rfl, rfl, rfl⟩
    · have t1 : (C != 0) = true := by simpa using h0
      have e1 : decide (C = 0) = false := decide_eq_false h0
      have H0 := Lib.hid h0
      simp only [e1, Bool.false_and, Bool.false_eq_true, if_false]
      clear h0 e1 t2 t3 t4
      unfold Ent.val Ent.zero at *
      go_enter Try.func86, Try.ntmps86
      go_wp2_with fail
      refine Calls.mono (RD.out _ (((Keep.refl _ _).alloc _).alloc _)) ?_
      rintro r w1 ⟨rfl, K1⟩
      have E1 := Lib.hid (E0.out.next K1)
      have A1 := Lib.hid ((((Keep.refl nob W).alloc _).alloc _).then K1)
      clear K1 RD E0
      go_wp2_with fail
      refine Calls.mono (GT.out _) ?_
      rintro r w2 ⟨rfl, K2⟩
      obtain ⟨c0, c1, c2, c3, z0, z1, z2, z3⟩ := E1.out.next K2
      have E2 := Lib.hid (fun p' q' c' f' => ((E1.out.next K2).put (p' := p') (q' := q') (c' := c') (f' := f')).next ((Keep.refl _ _).alloc (.cells #[.bool yp, .bool yq, .bool yc, .int .i64 yf] 47)))
      have A2 := Lib.hid (A1.out.then K2)
      have hb := World.block_lt_of_cell? _ _ c0
      clear K2 GT A1 E1
      go_wp2_with fail
      refine bodyPost_ret (results_ent rfl _ _ (W.heap.size + 1) (E2.out false false false 0) rfl (.bool false) rfl) rfl ⟨rfl, ?_⟩
      refine Keep.alloc ?_ _
      repeat (refine Keep.setCell ?_ _ (Or.inl (Nat.le_succ _)))
      exact A2.out
    all_goals
      unfold Ent.val Ent.zero at *
      go_enter Try.func86, Try.ntmps86
      go_wp2_with fail
      refine Calls.mono (RD.out _ (((Keep.refl _ _).alloc _).alloc _)) ?_
      rintro r w1 ⟨rfl, K1⟩
      have E1 := Lib.hid (E0.out.next K1)
      have A1 := Lib.hid ((((Keep.refl nob W).alloc _).alloc _).then K1)
      have p1 := K1.some (p := ⟨W.heap.size, 0, none⟩) (v := .slice (some ⟨g, 0, none⟩) (n * 32) (n * 32)) (by go_simp) (fun x => x)
      clear K1 RD E0
      go_wp2_with fail
      refine Calls.mono (GT.out _) ?_
      rintro r w2 ⟨rfl, K2⟩
      obtain ⟨c0, c1, c2, c3, z0, z1, z2, z3⟩ := E1.out.next K2
      replace p1 := K2.some p1 (fun x => x)
      have hb0 := World.block_lt_of_cell? _ _ p1
      have E2 := Lib.hid (fun yp p' q' c' f' => ((E1.out.next K2).put (p' := p') (q' := q') (c' := c') (f' := f')).next ((Keep.refl _ _).alloc (.cells #[.bool yp, .bool yq, .bool yc, .int .i64 yf] 47)))
      have A2 := Lib.hid (A1.out.then K2)
      have hb := World.block_lt_of_cell? _ _ c0
      clear K2 GT A1 E1
      go_wp2_with fail
    · refine bodyPost_ret (results_ent rfl _ _ (W.heap.size + 1) (E2.out false false yq yc yf) rfl (.bool true) rfl) rfl ⟨rfl, ?_⟩
      refine Keep.alloc ?_ _
      repeat (refine Keep.setCell ?_ _ (Or.inl (Nat.le_succ _)))
      exact A2.out
    · refine bodyPost_ret (results_ent rfl _ _ (W.heap.size + 1) (E2.out true false false false 0) rfl (.bool false) rfl) rfl ⟨rfl, ?_⟩
      refine Keep.alloc ?_ _
      repeat (refine Keep.setCell ?_ _ (Or.inl (Nat.le_succ _)))
      exact A2.out
    · refine bodyPost_ret (results_ent rfl _ _ (W.heap.size + 1) (E2.out true false false false 0) rfl (.bool false) rfl) rfl ⟨rfl, ?_⟩
      refine Keep.alloc ?_ _
      repeat (refine Keep.setCell ?_ _ (Or.inl (Nat.le_succ _)))
      exact A2.out
    · refine bodyPost_ret (results_ent rfl _ _ (W.heap.size + 1) (E2.out true true yq yc yf) rfl (.bool true) rfl) rfl ⟨rfl, ?_⟩
      refine Keep.alloc ?_ _
      repeat (refine Keep.setCell ?_ _ (Or.inl (Nat.le_succ _)))
      exact A2.out
    · refine bodyPost_ret (results_ent rfl _ _ (W.heap.size + 1) (E2.out true true yq yc yf) rfl (.bool true) rfl) rfl ⟨rfl, ?_⟩
      refine Keep.alloc ?_ _
      repeat (refine Keep.setCell ?_ _ (Or.inl (Nat.le_succ _)))
      exact A2.out
  · have ho : entOk n c t p = false := by unfold entOk; rw [decide_eq_false h, Bool.false_and, Bool.false_and]
    have he : entE n c t p = Ent.zero := by unfold entE; rw [ho]; rfl
    rw [ho, he]
    have RD := Lib.hid (fun W1 (K1 : Keep nob W W1) => refread_ok ((M.next K).next K1) t p)
    rw [if_neg h, if_neg h] at RD
    clear ho he M K
    unfold refV Ent.val Ent.zero at *
    go_enter Try.func86, Try.ntmps86
    have E0 := Lib.hid (EntAt.newAt W (.cells #[.slice (some ⟨g, 0, none⟩) (n * 32) (n * 32)] 58) false false false 0 47)
    go_wp2_with fail
    refine Calls.mono (RD.out _ (((Keep.refl _ _).alloc _).alloc _)) ?_
    rintro r w1 ⟨rfl, K1⟩
    have E1 := Lib.hid (fun p' q' c' f' => (E0.out.next K1).put (p' := p') (q' := q') (c' := c') (f' := f'))
    obtain ⟨c0, c1, c2, c3, z0, z1, z2, z3⟩ := E0.out.next K1
    have A1 := Lib.hid ((((Keep.refl nob W).alloc _).alloc _).then K1)
    clear K1 RD E0
    go_wp2_with fail
    refine bodyPost_ret (results_ent rfl _ _ (W.heap.size + 1) (E1.out false false false 0) rfl (.bool false) rfl) rfl ⟨rfl, ?_⟩
    repeat (refine Keep.setCell ?_ _ (Or.inl (Nat.le_succ _)))
    exact A1.out
set_option maxHeartbeats 1600000 in
theorem refpg_ok {w : World} {g n : Nat} {e : Int → Int → Ent} {ok : Int → Int → Bool} (h : RefEntryIs w g n e ok) (root page : Int) (h0 : 0 ≤ page) (h1 : page < 1024) :
    Calls Try.prog 84 #[.agg #[refV g n], .int .i64 root, .int .i64 page] w fun r w' => r = .returned (.tuple #[(pgE e ok root (page / 32) (page % 32)).val, .int .u8 (pgF e ok root (page / 32) (page % 32))]) ∧ Keep nob w w' := by
  have H1 := Lib.hid (fun W (K : Keep nob w W) => h W K root (page / 32))
  have H2 := Lib.hid (fun W (K : Keep nob w W) => h W K (e root (page / 32)).f (page % 32))
  unfold pgE pgF
  obtain ⟨o1, ho1⟩ : ∃ o, o = ok root (page / 32) := ⟨_, rfl⟩
  obtain ⟨o2, ho2⟩ : ∃ o, o = ok (e root (page / 32)).f (page % 32) := ⟨_, rfl⟩
  obtain ⟨y2, hy2⟩ : ∃ y, y = e (e root (page / 32)).f (page % 32) := ⟨_, rfl⟩
  rw [← ho1] at H1 ⊢
  rw [← ho2, ← hy2] at H2 ⊢
  clear ho1 ho2 hy2 h
  obtain ⟨y1, hy1⟩ : ∃ y, y = e root (page / 32) := ⟨_, rfl⟩
  rw [← hy1] at H1 H2 ⊢
  clear hy1
  obtain ⟨p1, q1, c1, f1⟩ := y1
  obtain ⟨p2, q2, c2, f2⟩ := y2
  unfold Ent.val refV at H1 H2
  unfold refV
  simp only [] at H2
  have hcase : o1 = false ∨ o1 = true ∧ p1 = false ∨ o1 = true ∧ p1 = true ∧ o2 = false ∨ o1 = true ∧ p1 = true ∧ o2 = true ∧ p2 = false ∨ o1 = true ∧ p1 = true ∧ o2 = true ∧ p2 = true := by
    cases o1 <;> cases p1 <;> cases o2 <;> cases p2 <;> simp
  rcases hcase with rfl | ⟨rfl, rfl⟩ | ⟨rfl, rfl, rfl⟩ | ⟨rfl, rfl, rfl, rfl⟩ | ⟨rfl, rfl, rfl, rfl⟩
  all_goals
    simp (config := { failIfUnchanged := false }) only [Bool.false_and, Bool.and_false, Bool.true_and, Bool.and_true, Bool.and_self, Bool.false_eq_true, if_false, if_true]
    (first | unfold Ent.val Ent.zero | unfold Ent.val)
    have E0 := Lib.hid (EntAt.newAt w (.cells #[.slice (some ⟨g, 0, none⟩) (n * 32) (n * 32)] 58) false false false 0 47)
    go_enter Try.func84, Try.ntmps84
    go_wp2_with fail
    refine Calls.mono (H1.out _ (((Keep.refl _ _).alloc _).alloc _)) ?_
    rintro r w1 ⟨rfl, K1⟩
    obtain ⟨d0, d1, d2, d3, z0, z1, z2, z3⟩ := E0.out.next K1
    have E1 := Lib.hid (E0.out.next K1)
    have s1 := K1.some (p := ⟨w.heap.size, 0, none⟩) (v := .slice (some ⟨g, 0, none⟩) (n * 32) (n * 32)) (by go_simp) (fun x => x)
    have A1 := Lib.hid ((((Keep.refl nob w).alloc _).alloc _).then K1)
    have hb := World.block_lt_of_cell? _ _ d0
    have hb0 := World.block_lt_of_cell? _ _ s1
    clear K1 E0 H1
    go_wp2_with fail
  · refine bodyPost_ret (results_ent rfl _ _ (w.heap.size + 1) ((E1.out.put (p' := false) (q' := false) (c' := false) (f' := 0)).next ((Keep.refl nob _).alloc (.cells #[.bool p1, .bool q1, .bool c1, .int .i64 f1] 47))) rfl (.int .u8 6) rfl) rfl ⟨rfl, ?_⟩
    refine Keep.alloc ?_ _
    repeat (refine Keep.setCell ?_ _ (Or.inl (Nat.le_succ _)))
    exact A1.out
  · refine bodyPost_ret (results_ent rfl _ _ (w.heap.size + 1) ((E1.out.put (p' := false) (q' := false) (c' := false) (f' := 0)).next ((Keep.refl nob _).alloc (.cells #[.bool false, .bool q1, .bool c1, .int .i64 f1] 47))) rfl (.int .u8 2) rfl) rfl ⟨rfl, ?_⟩
    refine Keep.alloc ?_ _
    repeat (refine Keep.setCell ?_ _ (Or.inl (Nat.le_succ _)))
    exact A1.out
  · refine Calls.mono (H2.out _ (A1.out.alloc _)) ?_
    rintro r w2 ⟨rfl, K2⟩
    have KK := ((Keep.refl nob w1).alloc (.cells #[.bool true, .bool q1, .bool c1, .int .i64 f1] 47)).then K2
    have A2 := Lib.hid (A1.out.then KK)
    have E2 := Lib.hid (E1.out.next KK)
    obtain ⟨d0, d1, d2, d3, z0, z1, z2, z3⟩ := E1.out.next KK
    have hb := World.block_lt_of_cell? _ _ d0
    clear K2 KK H2 E1 A1
    go_wp2_with fail
    refine bodyPost_ret (results_ent rfl _ _ (w.heap.size + 1) ((E2.out.put (p' := false) (q' := false) (c' := false) (f' := 0)).next ((Keep.refl nob _).alloc (.cells #[.bool p2, .bool q2, .bool c2, .int .i64 f2] 47))) rfl (.int .u8 6) rfl) rfl ⟨rfl, ?_⟩
    refine Keep.alloc ?_ _
    repeat (refine Keep.setCell ?_ _ (Or.inl (Nat.le_succ _)))
    exact A2.out
  · refine Calls.mono (H2.out _ (A1.out.alloc _)) ?_
    rintro r w2 ⟨rfl, K2⟩
    have KK := ((Keep.refl nob w1).alloc (.cells #[.bool true, .bool q1, .bool c1, .int .i64 f1] 47)).then K2
    have A2 := Lib.hid (A1.out.then KK)
    have E2 := Lib.hid (E1.out.next KK)
    obtain ⟨d0, d1, d2, d3, z0, z1, z2, z3⟩ := E1.out.next KK
    have hb := World.block_lt_of_cell? _ _ d0
    clear K2 KK H2 E1 A1
    go_wp2_with fail
    refine bodyPost_ret (results_ent rfl _ _ (w.heap.size + 1) ((E2.out.put (p' := false) (q' := false) (c' := false) (f' := 0)).next ((Keep.refl nob _).alloc (.cells #[.bool false, .bool q2, .bool c2, .int .i64 f2] 47))) rfl (.int .u8 3) rfl) rfl ⟨rfl, ?_⟩
    refine Keep.alloc ?_ _
    repeat (refine Keep.setCell ?_ _ (Or.inl (Nat.le_succ _)))
    exact A2.out
  · refine Calls.mono (H2.out _ (A1.out.alloc _)) ?_
    rintro r w2 ⟨rfl, K2⟩
    have KK := ((Keep.refl nob w1).alloc (.cells #[.bool true, .bool q1, .bool c1, .int .i64 f1] 47)).then K2
    have A2 := Lib.hid (A1.out.then KK)
    have E2 := Lib.hid (E1.out.next KK)
    obtain ⟨d0, d1, d2, d3, z0, z1, z2, z3⟩ := E1.out.next KK
    have hb := World.block_lt_of_cell? _ _ d0
    clear K2 KK H2 E1 A1
    go_wp2_with fail
    refine bodyPost_ret (results_ent rfl _ _ (w.heap.size + 1) ((E2.out.put (p' := true) (q' := q2) (c' := c2) (f' := f2)).next ((Keep.refl nob _).alloc (.cells #[.bool true, .bool q2, .bool c2, .int .i64 f2] 47))) rfl (.int .u8 0) rfl) rfl ⟨rfl, ?_⟩
    refine Keep.alloc ?_ _
    repeat (refine Keep.setCell ?_ _ (Or.inl (Nat.le_succ _)))
    exact A2.out
end Go.Proofs.Ytkkkmaigcnpmeaa

/- The reference's Put and Get of layer 1, and the example that each statement asks at its end. -/
import Derived.Test.YtkkkmaigcnpmeaaWord3
namespace Go.Proofs.Ytkkkmaigcnpmeaa
open Go.RowKit
set_option linter.unusedVariables false
set_option maxRecDepth 100000

theorem okW_iff (x : Int) (h0 : 0 ≤ x) : okW x = (decide (x < 262144) && decide (x / 8 % 32 = 0) && okE (entOf x)) := by
  unfold okW
  cases hE : okE (entOf x)
  · simp
  · have hf : x / 256 < 1024 := by
      simp only [okE, entOf, Bool.and_eq_true] at hE
      exact of_decide_eq_true hE.1.1.2
    rw [Bool.true_and, Bool.and_true]
    have h1 : decide (x < 262144) = true := by simp; omega
    rw [h1, Bool.true_and]
    refine decide_eq_decide.2 ?_
    unfold putW entOf bit
    simp only [decide_eq_true_eq]
    constructor
    · intro h; split at h <;> split at h <;> split at h <;> omega
    · intro h; split <;> split <;> split <;> omega
set_option maxHeartbeats 1600000 in
theorem refput_ok (e : Ent) (w : World) :
    Calls Try.prog 38 #[e.val] w fun r w' => r = .returned (.tuple #[.int .u32 (putR e), .int .i64 (chk e)]) ∧ Keep nob w w' := by
  obtain ⟨p, wr, c, f⟩ := e
  have hk := Lib.hid (refcheck_ok ⟨p, wr, c, f⟩ (w.alloc (.cells #[.bool p, .bool wr, .bool c, .int .i64 f] 47)))
  cases h : okE ⟨p, wr, c, f⟩
  · have hr : putR ⟨p, wr, c, f⟩ = 0 := by simp [putR, h]
    rw [chk_no h, hr]
    rw [chk_no h] at hk
    unfold Ent.val at hk ⊢
    clear h hr
    go_enter Try.func38, Try.ntmps38
    go_wp2_with fail
    refine Calls.mono hk.out ?_
    rintro e w1 ⟨rfl, K1⟩
    go_wp2
    go_ret2
    exact ⟨rfl, (Keep.alloc (Keep.refl _ _) _).then K1⟩
  · have hf : 0 ≤ f ∧ f < 1024 := by
      simp only [okE, Bool.and_eq_true, decide_eq_true_eq] at h
      exact h.1.1
    obtain ⟨hf0, hf1⟩ := hf
    have hr : putR ⟨p, wr, c, f⟩ = putW ⟨p, wr, c, f⟩ := by simp [putR, h]
    rw [chk_ok h, hr]
    rw [chk_ok h] at hk
    unfold Ent.val at hk ⊢
    clear h hr
    cases p <;> cases wr <;> cases c
    all_goals
      go_enter Try.func38, Try.ntmps38
      go_wp2_with fail
      refine Calls.mono hk.out ?_
      rintro e w1 ⟨rfl, K1⟩
      have c0 := K1.some (p := ⟨w.heap.size, 0, none⟩) (v := .bool _) (by rw [World.cell?_alloc_new]; rfl) (fun x => x)
      have c1 := K1.some (p := ⟨w.heap.size, 1, none⟩) (v := .bool _) (by rw [World.cell?_alloc_new]; rfl) (fun x => x)
      have c2 := K1.some (p := ⟨w.heap.size, 2, none⟩) (v := .bool _) (by rw [World.cell?_alloc_new]; rfl) (fun x => x)
      have c3 := K1.some (p := ⟨w.heap.size, 3, none⟩) (v := .int .i64 f) (by rw [World.cell?_alloc_new]; rfl) (fun x => x)
      have A1 := Lib.hid ((Keep.alloc (Keep.refl nob w) _).then K1)
      clear hk K1
      go_wp2
      go_ret2
      refine ⟨?_, A1.out⟩
      simp [putW, bit]
      try omega

theorem get_no {x : Int} (h0 : 0 ≤ x) (h : ¬ (x < 262144 ∧ x / 8 % 32 = 0)) : getR x = Ent.zero ∧ gchk x = 6 := by
  have : okW x = false := by
    rw [okW_iff x h0]
    simp only [Bool.and_eq_false_iff, decide_eq_false_iff_not]
    omega
  exact ⟨by simp [getR, this], by simp [gchk, this]⟩
theorem get_at {x : Int} (h0 : 0 ≤ x) (h1 : x < 262144) (h2 : x / 8 % 32 = 0) : okW x = okE (entOf x) := by
  rw [okW_iff x h0, decide_eq_true h1, decide_eq_true h2]; rfl
set_option maxHeartbeats 1600000 in
theorem refget_no (x : Int) (w : World) (h0 : 0 ≤ x) (hx : x < 4294967296) (h : ¬ (x < 262144 ∧ x / 8 % 32 = 0)) :
    Calls Try.prog 43 #[.int .u32 x] w fun r w' => r = .returned (.tuple #[(getR x).val, .int .i64 (gchk x)]) ∧ Keep nob w w' := by
  obtain ⟨hg, hk⟩ := get_no h0 h
  rw [hg, hk]
  clear hg hk
  unfold Ent.val Ent.zero
  by_cases h1 : 262144 ≤ x
  · have t1 : decide (262144 ≤ x) = true := by simpa using h1
    clear h h1
    go_enter Try.func43, Try.ntmps43
    go_wp2
    refine bodyPost_ret (v := .tuple #[.agg #[.bool false, .bool false, .bool false, .int .i64 0], .int .i64 6]) (by rw [results_cell_tmp rfl]; go_simp) rfl ⟨rfl, ?_⟩
    exact (Keep.refl _ _).alloc _
  · have t1 : decide (262144 ≤ x) = false := by simpa using h1
    have t2 : (x / 8 % 32 != 0) = true := by simp; omega
    clear h h1
    go_enter Try.func43, Try.ntmps43
    go_wp2
    refine bodyPost_ret (v := .tuple #[.agg #[.bool false, .bool false, .bool false, .int .i64 0], .int .i64 6]) (by rw [results_cell_tmp rfl]; go_simp) rfl ⟨rfl, ?_⟩
    exact (Keep.refl _ _).alloc _
set_option maxHeartbeats 1600000 in
theorem refget_yes (x : Int) (w : World) (h0 : 0 ≤ x) (h1 : x < 262144) (h2 : x / 8 % 32 = 0) :
    Calls Try.prog 43 #[.int .u32 x] w fun r w' => r = .returned (.tuple #[(getR x).val, .int .i64 (gchk x)]) ∧ Keep nob w w' := by
  have t1 : decide (262144 ≤ x) = false := by simpa using h1
  have t2 : (x / 8 % 32 != 0) = false := by simp [h2]
  have hok := get_at h0 h1 h2
  have hk := fun W => refcheck_ok (entOf x) W
  obtain ⟨C, hC⟩ : ∃ C, chk (entOf x) = C := ⟨_, rfl⟩
  rw [hC] at hk
  have HK := Lib.hid hk
  have HC := Lib.hid hC
  have HO := Lib.hid hok
  clear hk hC hok h2
  go_enter Try.func43, Try.ntmps43
  go_wp2_with fail
  obtain ⟨W, hW⟩ : ∃ W, W = ((w.alloc (.cells #[.bool false, .bool false, .bool false, .int .i64 0] 47)).alloc (.cells #[.bool (x % 2 == 1), .bool (x / 2 % 2 == 1), .bool (x / 4 % 2 == 1), .int .i64 (x / 256)] 47)) := ⟨_, rfl⟩
  have A0 : Keep nob w W := by rw [hW]; exact ((Keep.refl _ _).alloc _).alloc _
  have c0 : W.cell? ⟨w.heap.size + 1, 0, none⟩ = some (.bool (x % 2 == 1)) := by rw [hW]; go_simp
  have c1 : W.cell? ⟨w.heap.size + 1, 1, none⟩ = some (.bool (x / 2 % 2 == 1)) := by rw [hW]; go_simp
  have c2 : W.cell? ⟨w.heap.size + 1, 2, none⟩ = some (.bool (x / 4 % 2 == 1)) := by rw [hW]; go_simp
  have c3 : W.cell? ⟨w.heap.size + 1, 3, none⟩ = some (.int .i64 (x / 256)) := by rw [hW]; go_simp
  have r0 : W.cell? ⟨w.heap.size, 0, none⟩ = some (.bool false) := by rw [hW]; go_simp
  have r1 : W.cell? ⟨w.heap.size, 1, none⟩ = some (.bool false) := by rw [hW]; go_simp
  have r2 : W.cell? ⟨w.heap.size, 2, none⟩ = some (.bool false) := by rw [hW]; go_simp
  have r3 : W.cell? ⟨w.heap.size, 3, none⟩ = some (.int .i64 0) := by rw [hW]; go_simp
  have z : ∀ j, W.frozen? ⟨w.heap.size, j, none⟩ = false := by intro j; rw [hW]; go_simp
  rw [← hW]
  clear hW
  refine Calls.mono (HK.out W) ?_
  rintro e w1 ⟨rfl, K1⟩
  have d0 := K1.some c0 (fun x => x)
  have d1 := K1.some c1 (fun x => x)
  have d2 := K1.some c2 (fun x => x)
  have d3 := K1.some c3 (fun x => x)
  have q0 := K1.some r0 (fun x => x)
  have q1 := K1.some r1 (fun x => x)
  have q2 := K1.some r2 (fun x => x)
  have q3 := K1.some r3 (fun x => x)
  have hb := World.block_lt_of_cell? _ _ r0
  have z0 := (K1.frozen (p := ⟨w.heap.size, 0, none⟩) hb (fun x => x)).trans (z 0)
  have z1 := (K1.frozen (p := ⟨w.heap.size, 1, none⟩) hb (fun x => x)).trans (z 1)
  have z2 := (K1.frozen (p := ⟨w.heap.size, 2, none⟩) hb (fun x => x)).trans (z 2)
  have z3 := (K1.frozen (p := ⟨w.heap.size, 3, none⟩) hb (fun x => x)).trans (z 3)
  have A1 := Lib.hid (A0.then K1)
  clear c0 c1 c2 c3 r0 r1 r2 r3 z K1 A0 hb HK
  cases hE : okE (entOf x)
  · obtain rfl : C = 2 := by rw [← HC.out, chk_no hE]
    have hg : Hid (getR x = Ent.zero) := by simp [Hid, getR, HO.out, hE]
    have hgk : Hid (gchk x = 6) := by simp [Hid, gchk, HO.out, hE]
    clear hE HC HO
    go_wp2_with fail
    refine bodyPost_ret (v := .tuple #[.agg #[.bool false, .bool false, .bool false, .int .i64 0], .int .i64 6]) (by rw [results_cell_tmp rfl]; go_simp) rfl ⟨?_, ?_⟩
    · rw [hg.out, hgk.out]; rfl
    · exact (((A1.out.setCell (p := ⟨w.heap.size, 0, none⟩) _ (Or.inl (Nat.le_refl _))).setCell (p := ⟨w.heap.size, 1, none⟩) _ (Or.inl (Nat.le_refl _))).setCell (p := ⟨w.heap.size, 2, none⟩) _ (Or.inl (Nat.le_refl _))).setCell (p := ⟨w.heap.size, 3, none⟩) _ (Or.inl (Nat.le_refl _))
  · obtain rfl : C = 0 := by rw [← HC.out, chk_ok hE]
    have hg : Hid (getR x = entOf x) := by simp [Hid, getR, HO.out, hE]
    have hgk : Hid (gchk x = 0) := by simp [Hid, gchk, HO.out, hE]
    clear hE HC HO
    go_wp2_with fail
    refine bodyPost_ret (v := .tuple #[.agg #[.bool (x % 2 == 1), .bool (x / 2 % 2 == 1), .bool (x / 4 % 2 == 1), .int .i64 (x / 256)], .int .i64 0]) (by rw [results_cell_tmp rfl]; go_simp) rfl ⟨?_, ?_⟩
    · rw [hg.out, hgk.out]; rfl
    · exact (((A1.out.setCell (p := ⟨w.heap.size, 0, none⟩) _ (Or.inl (Nat.le_refl _))).setCell (p := ⟨w.heap.size, 1, none⟩) _ (Or.inl (Nat.le_refl _))).setCell (p := ⟨w.heap.size, 2, none⟩) _ (Or.inl (Nat.le_refl _))).setCell (p := ⟨w.heap.size, 3, none⟩) _ (Or.inl (Nat.le_refl _))
theorem refget_ok (x : Int) (w : World) (h0 : 0 ≤ x) (hx : x < 4294967296) :
    Calls Try.prog 43 #[.int .u32 x] w fun r w' => r = .returned (.tuple #[(getR x).val, .int .i64 (gchk x)]) ∧ Keep nob w w' := by
  by_cases h : x < 262144 ∧ x / 8 % 32 = 0
  · exact refget_yes x w h0 h.1 h.2
  · exact refget_no x w h0 hx h

set_option maxHeartbeats 800000 in
theorem awake01 (w : World) : Calls Try.prog 41 #[] w fun e w' => e = .returned (.bool true) ∧ Keep nob w w' := by
  have h1 := fun W => put_ok ⟨true, true, false, 5⟩ W
  rw [show putR ⟨true, true, false, 5⟩ = 1283 by decide, show chk ⟨true, true, false, 5⟩ = 0 by decide] at h1
  have h2 := fun W => get_ok 2 W (by decide) (by decide)
  rw [show getR 2 = Ent.zero by decide, show gchk 2 = 6 by decide] at h2
  have H1 := Lib.hid h1
  have H2 := Lib.hid h2
  clear h1 h2
  go_enter Try.func41, Try.ntmps41
  go_wp2_with fail
  refine Calls.mono (H1.out _) ?_
  rintro e w1 ⟨rfl, K1⟩
  go_wp2_with fail
  refine Calls.mono (H2.out _) ?_
  unfold Ent.val Ent.zero
  rintro e w2 ⟨rfl, K2⟩
  go_wp2_with fail
  refine Calls.mono (page_yes 33 _ (by decide) (by decide)) ?_
  rintro e w3 ⟨rfl, rfl⟩
  go_wp2
  go_ret
  exact ⟨rfl, (K1.then K2).alloc _⟩
end Go.Proofs.Ytkkkmaigcnpmeaa

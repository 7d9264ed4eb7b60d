/- Contracts of the reference's walk (prioryref03): where an address is; a page's entry. -/
import Derived.Test.YtkkkmaigcnpmeaaRefWalk
namespace Go.Proofs.Ytkkkmaigcnpmeaa
open Go.RowKit
set_option linter.unusedVariables false
set_option linter.unusedSimpArgs false
set_option maxRecDepth 100000
set_option maxHeartbeats 1600000 in
theorem refat_ok {w : World} {g n : Nat} {e : Int → Int → Ent} {ok : Int → Int → Bool} (h : RefEntryIs w g n e ok) (root va : Int) (wr : Bool) (h0 : 0 ≤ va) (h1 : va < 4294967296) :
    Calls Try.prog 63 #[.agg #[refV g n], .int .i64 root, .int .u32 va, .bool wr] w
      fun r w' => r = .returned (.tuple #[.int .i64 (atFr e ok root va wr), .int .i64 (atPl e ok root va wr), .int .u8 (atF e ok root va wr)]) ∧ Keep nob w w' := by
  unfold atFr atPl atF
  by_cases hv : 32768 ≤ va
  · simp only [if_pos hv]
    have t1 : decide (32768 ≤ va) = true := by simpa using hv
    clear h
    unfold refV
    go_enter Try.func63, Try.ntmps63
    go_wp2_with fail
    refine bodyPost_ret (v := .tuple #[.int .i64 0, .int .i64 0, .int .u8 1]) (by simp [results, Try.results63, go_sem]) rfl ⟨rfl, (Keep.refl _ _).alloc _⟩
  · simp only [if_neg hv]
    have t1 : decide (32768 ≤ va) = false := by simpa using hv
    have PG := Lib.hid (fun W (K : Keep nob w W) => refpg_ok (h.next K) root (va / 32) (by omega) (by omega))
    unfold atE
    obtain ⟨F, hF⟩ : ∃ F, F = pgF e ok root (va / 32 / 32) (va / 32 % 32) := ⟨_, rfl⟩
    obtain ⟨x, hx⟩ : ∃ x, x = pgE e ok root (va / 32 / 32) (va / 32 % 32) := ⟨_, rfl⟩
    rw [← hF, ← hx] at PG ⊢
    clear hF hx h
    obtain ⟨p, q, c, f⟩ := x
    unfold Ent.val refV at PG
    unfold refV
    have hv' : va < 32768 := by omega
    clear hv
    by_cases h2 : F = 0
    · subst h2
      simp only [if_true]
      cases wr <;> cases c <;> cases q
      all_goals
        simp only [Bool.false_and, Bool.true_and, Bool.not_false, Bool.not_true, Bool.false_eq_true, if_true, if_false]
        go_enter Try.func63, Try.ntmps63
        go_wp2_with fail
        refine Calls.mono (PG.out _ ((Keep.refl _ _).alloc _)) ?_
        rintro r w1 ⟨rfl, K⟩
        have A := Lib.hid (((Keep.refl nob w).alloc _).then K)
        go_wp2_with fail
        first
          | (refine bodyPost_ret (v := .tuple #[.int .i64 f, .int .i64 (va % 32), .int .u8 0]) (by simp [results, Try.results63, go_sem]) rfl ⟨rfl, A.out.alloc _⟩)
          | (refine bodyPost_ret (v := .tuple #[.int .i64 0, .int .i64 0, .int .u8 4]) (by simp [results, Try.results63, go_sem]) rfl ⟨rfl, A.out.alloc _⟩)
          | (refine bodyPost_ret (v := .tuple #[.int .i64 0, .int .i64 0, .int .u8 5]) (by simp [results, Try.results63, go_sem]) rfl ⟨rfl, A.out.alloc _⟩)
    · simp only [if_neg h2]
      have t2 : (F != 0) = true := by simpa using h2
      clear h2
      go_enter Try.func63, Try.ntmps63
      go_wp2_with fail
      refine Calls.mono (PG.out _ ((Keep.refl _ _).alloc _)) ?_
      rintro r w1 ⟨rfl, K⟩
      go_wp2_with fail
      refine bodyPost_ret (v := .tuple #[.int .i64 0, .int .i64 0, .int .u8 F]) (by simp [results, Try.results63, go_sem]) rfl ⟨rfl, (((Keep.refl nob w).alloc _).then K).alloc _⟩
set_option maxHeartbeats 1600000 in
theorem reflook_ok {w : World} {g n : Nat} {e : Int → Int → Ent} {ok : Int → Int → Bool} (h : RefEntryIs w g n e ok) (root page : Int) :
    Calls Try.prog 67 #[.agg #[refV g n], .int .i64 root, .int .i64 page] w
      fun r w' => r = .returned (.tuple #[(lkE e ok root page).val, .int .i64 (lkF e ok root page)]) ∧ Keep nob w w' := by
  unfold lkE lkF
  have E0 := Lib.hid (EntAt.newAt w (.cells #[.slice (some ⟨g, 0, none⟩) (n * 32) (n * 32)] 58) false false false 0 47)
  by_cases hp : 0 ≤ page ∧ page < 1024
  · simp only [if_pos hp]
    obtain ⟨p0, p1⟩ := hp
    have t1 : decide (page < 0) = false := by simpa using p0
    have t2 : decide (1023 < page) = false := by simp; omega
    have PG := Lib.hid (fun W (K : Keep nob w W) => refpg_ok (h.next K) root page p0 p1)
    have hc := pgF_cases e ok root (page / 32) (page % 32)
    have hz := pgE_zero e ok root (page / 32) (page % 32)
    obtain ⟨F, hF⟩ : ∃ F, F = pgF e ok root (page / 32) (page % 32) := ⟨_, rfl⟩
    obtain ⟨x, hx⟩ : ∃ x, x = pgE e ok root (page / 32) (page % 32) := ⟨_, rfl⟩
    rw [← hF, ← hx] at PG hz ⊢
    rw [← hF] at hc
    clear hF hx h
    have hz := Lib.hid hz
    obtain ⟨p, q, cc, ff⟩ := x
    unfold Ent.val refV at PG
    unfold refV
    rcases hc with rfl | rfl | rfl | rfl
    all_goals
      simp only [Int.reduceEq, if_true, if_false]
      go_enter Try.func67, Try.ntmps67
      go_wp2_with fail
      refine Calls.mono (PG.out _ (((Keep.refl _ _).alloc _).alloc _)) ?_
      rintro r w1 ⟨rfl, K⟩
      have A := Lib.hid ((((Keep.refl nob w).alloc _).alloc _).then K)
      have E1 := Lib.hid (fun p' q' c' f' => ((E0.out.next K).put (p' := p') (q' := q') (c' := c') (f' := f')).next ((Keep.refl _ _).alloc (.cells #[.bool p, .bool q, .bool cc, .int .i64 ff] 47)))
      obtain ⟨d0, d1, d2, d3, z0, z1, z2, z3⟩ := E0.out.next K
      have hb := World.block_lt_of_cell? _ _ d0
      clear K
      go_wp2_with fail
    · refine bodyPost_ret (results_ent rfl _ _ (w.heap.size + 1) (E1.out p q cc ff) rfl (.int .i64 0) rfl) rfl ⟨rfl, ?_⟩
      refine Keep.alloc ?_ _
      repeat (refine Keep.setCell ?_ _ (Or.inl (Nat.le_succ _)))
      exact A.out
    · rw [hz.out (by decide)]
      unfold Ent.zero
      refine bodyPost_ret (results_ent rfl _ _ (w.heap.size + 1) (E1.out false false false 0) rfl (.int .i64 4) rfl) rfl ⟨rfl, ?_⟩
      refine Keep.alloc ?_ _
      repeat (refine Keep.setCell ?_ _ (Or.inl (Nat.le_succ _)))
      exact A.out
    · refine bodyPost_ret (results_ent rfl _ _ (w.heap.size + 1) (E1.out p q cc ff) rfl (.int .i64 0) rfl) rfl ⟨rfl, ?_⟩
      refine Keep.alloc ?_ _
      repeat (refine Keep.setCell ?_ _ (Or.inl (Nat.le_succ _)))
      exact A.out
    · rw [hz.out (by decide)]
      unfold Ent.zero
      refine bodyPost_ret (results_ent rfl _ _ (w.heap.size + 1) (E1.out false false false 0) rfl (.int .i64 6) rfl) rfl ⟨rfl, ?_⟩
      refine Keep.alloc ?_ _
      repeat (refine Keep.setCell ?_ _ (Or.inl (Nat.le_succ _)))
      exact A.out
  · simp only [if_neg hp]
    obtain ⟨T1, t1⟩ : ∃ T, decide (page < 0) = T := ⟨_, rfl⟩
    obtain ⟨T2, t2⟩ : ∃ T, decide (1023 < page) = T := ⟨_, rfl⟩
    have HT : T1 = true ∨ T1 = false ∧ T2 = true := by
      rw [← t1, ← t2]
      simp only [decide_eq_true_eq, decide_eq_false_iff_not]
      omega
    clear hp h E0
    unfold refV
    rcases HT with rfl | ⟨rfl, rfl⟩
    all_goals
      go_enter Try.func67, Try.ntmps67
      go_wp2_with fail
      refine bodyPost_ret (v := .tuple #[.agg #[.bool false, .bool false, .bool false, .int .i64 0], .int .i64 2]) (by rw [results_cell_tmp rfl]; go_simp) rfl ⟨rfl, ?_⟩
      first
        | exact ((Keep.refl _ _).alloc _).alloc _
        | ((repeat (refine Keep.setCell ?_ _ (Or.inl (Nat.le_succ _)))); exact ((Keep.refl _ _).alloc _).alloc _)
end Go.Proofs.Ytkkkmaigcnpmeaa

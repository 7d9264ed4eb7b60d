/- Contracts of package walk: a page's entry; a word loaded, stored. -/
import Derived.Test.YtkkkmaigcnpmeaaWalk3
namespace Go.Proofs.Ytkkkmaigcnpmeaa
open Go.RowKit
set_option linter.unusedVariables false
set_option linter.unusedSimpArgs false
set_option maxRecDepth 100000
theorem wr_any {w : World} {b f n : Nat} {c : Nat → Int} (M : MemAt w b f n c) (i j v : Int) (hv : 0 ≤ v ∧ v < 4294967296) :
    Calls Try.prog 30 #[.pointer (some ⟨b, 0, none⟩), .int .i64 i, .int .i64 j, .int .u32 v] w
      fun e w' => (∃ C, e = .returned (.int .i64 C)) ∧ MemAt w' b f n (if inR n i j then upd c (i.toNat * 32 + j.toNat) v else c) ∧ Keep (only f) w w' :=
  (write_any M i j v hv).mono fun _ _ q => ⟨⟨_, q.1⟩, q.2⟩
theorem rd_any {w : World} {b f n : Nat} {c : Nat → Int} (M : MemAt w b f n c) (i j : Int) :
    Calls Try.prog 32 #[.pointer (some ⟨b, 0, none⟩), .int .i64 i, .int .i64 j] w
      fun e w' => (∃ C, e = .returned (.tuple #[.int .u32 (rdW n c i j), .int .i64 C])) ∧ Keep nob w w' :=
  (read_any M i j).mono fun _ _ q => ⟨⟨_, q.1⟩, q.2⟩
def ldW (n : Nat) (c : Nat → Int) (root va : Int) : Int :=
  if atF (entE n c) (entOk n c) root va false = 0 then rdW n c (atFr (entE n c) (entOk n c) root va false) (atPl (entE n c) (entOk n c) root va false) else 0
theorem load_ok {w : World} {b f n : Nat} {c : Nat → Int} (M : MemAt w b f n c) (root va : Int) (h0 : 0 ≤ va) (h1 : va < 4294967296) :
    Calls Try.prog 65 #[.pointer (some ⟨b, 0, none⟩), .int .i64 root, .int .u32 va] w
      fun r w' => r = .returned (.tuple #[.int .u32 (ldW n c root va), .int .u8 (atF (entE n c) (entOk n c) root va false)]) ∧ Keep nob w w' := by
  have AT := Lib.hid (at_ok (entry_at M) root va false h0 h1)
  unfold ldW
  obtain ⟨F, hF⟩ : ∃ F, F = atF (entE n c) (entOk n c) root va false := ⟨_, rfl⟩
  obtain ⟨a, ha⟩ : ∃ a, a = atFr (entE n c) (entOk n c) root va false := ⟨_, rfl⟩
  obtain ⟨p, hp⟩ : ∃ p, p = atPl (entE n c) (entOk n c) root va false := ⟨_, rfl⟩
  rw [← hF, ← ha, ← hp] at AT ⊢
  clear hF ha hp
  have RD := Lib.hid (fun W (K : Keep nob w W) => rd_any (M.next K) a p)
  clear M
  by_cases h2 : F = 0
  · subst h2
    simp only [if_true]
    obtain ⟨R, hR⟩ : ∃ R, R = rdW n c a p := ⟨_, rfl⟩
    rw [← hR] at RD ⊢
    clear hR
    go_enter Try.func65, Try.ntmps65
    go_wp2_with fail
    refine Calls.mono AT.out ?_
    rintro r w1 ⟨rfl, K1⟩
    go_wp2_with fail
    refine Calls.mono (RD.out _ K1) ?_
    rintro r w2 ⟨⟨C, rfl⟩, K2⟩
    go_wp2_with fail
    go_ret2
    exact ⟨rfl, K1.then K2⟩
  · have t1 : (F != 0) = true := by simpa using h2
    simp only [if_neg h2]
    clear h2 RD
    go_enter Try.func65, Try.ntmps65
    go_wp2_with fail
    refine Calls.mono AT.out ?_
    rintro r w1 ⟨rfl, K1⟩
    go_wp2_with fail
    go_ret2
    exact ⟨rfl, K1⟩
def stW (n : Nat) (c : Nat → Int) (root va v : Int) : Nat → Int :=
  if atF (entE n c) (entOk n c) root va true = 0 then (if inR n (atFr (entE n c) (entOk n c) root va true) (atPl (entE n c) (entOk n c) root va true) then
    upd c ((atFr (entE n c) (entOk n c) root va true).toNat * 32 + (atPl (entE n c) (entOk n c) root va true).toNat) v else c) else c
theorem store_ok {w : World} {b f n : Nat} {c : Nat → Int} (M : MemAt w b f n c) (root va v : Int) (h0 : 0 ≤ va) (h1 : va < 4294967296) (hv : 0 ≤ v ∧ v < 4294967296) :
    Calls Try.prog 64 #[.pointer (some ⟨b, 0, none⟩), .int .i64 root, .int .u32 va, .int .u32 v] w
      fun r w' => r = .returned (.int .u8 (atF (entE n c) (entOk n c) root va true)) ∧ MemAt w' b f n (stW n c root va v) ∧ Keep (only f) w w' := by
  have AT := Lib.hid (at_ok (entry_at M) root va true h0 h1)
  unfold stW
  obtain ⟨F, hF⟩ : ∃ F, F = atF (entE n c) (entOk n c) root va true := ⟨_, rfl⟩
  obtain ⟨a, ha⟩ : ∃ a, a = atFr (entE n c) (entOk n c) root va true := ⟨_, rfl⟩
  obtain ⟨p, hp⟩ : ∃ p, p = atPl (entE n c) (entOk n c) root va true := ⟨_, rfl⟩
  rw [← hF, ← ha, ← hp] at AT ⊢
  clear hF ha hp
  have WR := Lib.hid (fun W (K : Keep nob w W) => wr_any (M.next K) a p v hv)
  have HM := Lib.hid M
  clear M
  by_cases h2 : F = 0
  · subst h2
    simp only [if_true]
    obtain ⟨R, hR⟩ : ∃ R, R = (if inR n a p then upd c (a.toNat * 32 + p.toNat) v else c) := ⟨_, rfl⟩
    rw [← hR] at WR ⊢
    clear hR
    go_enter Try.func64, Try.ntmps64
    go_wp2_with fail
    refine Calls.mono AT.out ?_
    rintro r w1 ⟨rfl, K1⟩
    go_wp2_with fail
    refine Calls.mono (WR.out _ K1) ?_
    rintro r w2 ⟨⟨C, rfl⟩, M2, K2⟩
    go_wp2_with fail
    go_ret
    exact ⟨rfl, M2, K1.nob.trans K2 (fun _ _ e => e)⟩
  · have t1 : (F == 0) = false := by simpa using h2
    simp only [if_neg h2]
    clear h2 WR
    go_enter Try.func64, Try.ntmps64
    go_wp2_with fail
    refine Calls.mono AT.out ?_
    rintro r w1 ⟨rfl, K1⟩
    go_wp2_with fail
    go_ret
    exact ⟨rfl, HM.out.next K1, K1.nob⟩
section
variable (e : Int → Int → Ent) (ok : Int → Int → Bool)
def lkF (root page : Int) : Int := if 0 ≤ page ∧ page < 1024 then (if pgF e ok root (page / 32) (page % 32) = 6 then 6 else if pgF e ok root (page / 32) (page % 32) = 2 then 4 else 0) else 2
def lkE (root page : Int) : Ent := if 0 ≤ page ∧ page < 1024 then pgE e ok root (page / 32) (page % 32) else Ent.zero
theorem pgF_cases (root i k : Int) : pgF e ok root i k = 0 ∨ pgF e ok root i k = 2 ∨ pgF e ok root i k = 3 ∨ pgF e ok root i k = 6 := by
  unfold pgF
  split <;> (try split) <;> (try split) <;> (try split) <;> simp
theorem pgE_zero (root i k : Int) (h : pgF e ok root i k ≠ 0) : pgE e ok root i k = Ent.zero := by
  unfold pgF at h
  unfold pgE
  by_cases a1 : ok root i = true <;> by_cases a2 : (e root i).p = true <;> by_cases a3 : ok (e root i).f k = true <;> by_cases a4 : (e (e root i).f k).p = true <;> simp_all
end
theorem look_none {w : World} {v : Value} (h : NoMem w v) (root page : Int) :
    Calls Try.prog 66 #[v, .int .i64 root, .int .i64 page] w fun r w' => r = .returned (.tuple #[Ent.zero.val, .int .i64 1]) ∧ Keep nob w w' := by
  have FR := Lib.hid (fun o => frames_none (h.next ((Keep.refl nob w).alloc o)))
  clear h
  go_enter Try.func66, Try.ntmps66
  go_wp2_with fail
  refine Calls.mono (FR.out _) ?_
  rintro r w1 ⟨rfl, rfl⟩
  go_wp2_with fail
  refine bodyPost_ret (v := .tuple #[.agg #[.bool false, .bool false, .bool false, .int .i64 0], .int .i64 1]) (by rw [results_cell_tmp rfl]; go_simp) rfl ⟨rfl, ?_⟩
  first
    | exact (Keep.refl _ _).alloc _
    | (repeat (refine Keep.setCell ?_ _ (Or.inl (Nat.le_refl _))))
      exact (Keep.refl _ _).alloc _
set_option maxHeartbeats 1600000 in
theorem look_ok {w : World} {b f n : Nat} {c : Nat → Int} (M : MemAt w b f n c) (root page : Int) :
    Calls Try.prog 66 #[.pointer (some ⟨b, 0, none⟩), .int .i64 root, .int .i64 page] w
      fun r w' => r = .returned (.tuple #[(lkE (entE n c) (entOk n c) root page).val, .int .i64 (lkF (entE n c) (entOk n c) root page)]) ∧ Keep nob w w' := by
  have FR := Lib.hid (fun o => frames_at (M.next ((Keep.refl nob w).alloc o)))
  have lo := M.lo
  have hn2 : ((n : Int) == 0) = false := by simp; omega
  have hn3 : (n == 0) = false := by simp; omega
  unfold lkE lkF
  by_cases hp : 0 ≤ page ∧ page < 1024
  · simp only [if_pos hp]
    obtain ⟨p0, p1⟩ := hp
    have t1 : decide (page < 0) = false := by simpa using p0
    have t2 : decide (1024 ≤ page) = false := by simpa using p1
    have PG := Lib.hid (fun o => page_ok (entry_at (M.next ((Keep.refl nob w).alloc o))) root (page / 32) (page % 32))
    have hc := pgF_cases (entE n c) (entOk n c) root (page / 32) (page % 32)
    have hz := pgE_zero (entE n c) (entOk n c) root (page / 32) (page % 32)
    obtain ⟨F, hF⟩ : ∃ F, F = pgF (entE n c) (entOk n c) root (page / 32) (page % 32) := ⟨_, rfl⟩
    obtain ⟨x, hx⟩ : ∃ x, x = pgE (entE n c) (entOk n c) root (page / 32) (page % 32) := ⟨_, rfl⟩
    rw [← hF, ← hx] at PG hz ⊢
    rw [← hF] at hc
    clear hF hx
    have hz := Lib.hid hz
    obtain ⟨p, q, cc, ff⟩ := x
    have E0 := Lib.hid (EntAt.new w false false false 0 47)
    rcases hc with rfl | rfl | rfl | rfl
    all_goals
      simp only [Int.reduceEq, if_true, if_false]
      go_enter Try.func66, Try.ntmps66
      go_wp2_with fail
      refine Calls.mono (FR.out _) ?_
      rintro r w1 ⟨rfl, rfl⟩
      go_wp2_with fail
      refine Calls.mono (PG.out _) ?_
      unfold Ent.val
      rintro r w1 ⟨rfl, K⟩
      have A := Lib.hid (((Keep.refl nob w).alloc _).then K)
      have E1 := Lib.hid (fun p' q' c' f' => ((E0.out.next K).put (p' := p') (q' := q') (c' := c') (f' := f')).next ((Keep.refl _ _).alloc (.cells #[.bool p, .bool q, .bool cc, .int .i64 ff] 47)))
      obtain ⟨d0, d1, d2, d3, z0, z1, z2, z3⟩ := E0.out.next K
      have hb := World.block_lt_of_cell? _ _ d0
      clear K
      go_wp2_with fail
    · refine bodyPost_ret (results_ent rfl _ _ w.heap.size (E1.out p q cc ff) rfl (.int .i64 0) rfl) rfl ⟨rfl, ?_⟩
      refine Keep.alloc ?_ _
      repeat (refine Keep.setCell ?_ _ (Or.inl (Nat.le_refl _)))
      exact A.out
    · rw [hz.out (by decide)]
      unfold Ent.zero
      refine bodyPost_ret (results_ent rfl _ _ w.heap.size (E1.out false false false 0) rfl (.int .i64 4) rfl) rfl ⟨rfl, ?_⟩
      refine Keep.alloc ?_ _
      repeat (refine Keep.setCell ?_ _ (Or.inl (Nat.le_refl _)))
      exact A.out
    · refine bodyPost_ret (results_ent rfl _ _ w.heap.size (E1.out p q cc ff) rfl (.int .i64 0) rfl) rfl ⟨rfl, ?_⟩
      refine Keep.alloc ?_ _
      repeat (refine Keep.setCell ?_ _ (Or.inl (Nat.le_refl _)))
      exact A.out
    · rw [hz.out (by decide)]
      unfold Ent.zero
      refine bodyPost_ret (results_ent rfl _ _ w.heap.size (E1.out false false false 0) rfl (.int .i64 6) rfl) rfl ⟨rfl, ?_⟩
      refine Keep.alloc ?_ _
      repeat (refine Keep.setCell ?_ _ (Or.inl (Nat.le_refl _)))
      exact A.out
  · simp only [if_neg hp]
    obtain ⟨T1, t1⟩ : ∃ T, decide (page < 0) = T := ⟨_, rfl⟩
    obtain ⟨T2, t2⟩ : ∃ T, decide (1024 ≤ page) = T := ⟨_, rfl⟩
    have HT : T1 = true ∨ T1 = false ∧ T2 = true := by
      rw [← t1, ← t2]
      simp only [decide_eq_true_eq, decide_eq_false_iff_not]
      omega
    clear M hp lo
    rcases HT with rfl | ⟨rfl, rfl⟩
    all_goals
      go_enter Try.func66, Try.ntmps66
      go_wp2_with fail
      refine Calls.mono (FR.out _) ?_
      rintro r w1 ⟨rfl, rfl⟩
      go_wp2_with fail
      refine bodyPost_ret (v := .tuple #[.agg #[.bool false, .bool false, .bool false, .int .i64 0], .int .i64 2]) (by rw [results_cell_tmp rfl]; go_simp) rfl ⟨rfl, ?_⟩
      first
        | exact (Keep.refl _ _).alloc _
        | ((repeat (refine Keep.setCell ?_ _ (Or.inl (Nat.le_refl _)))); exact (Keep.refl _ _).alloc _)
end Go.Proofs.Ytkkkmaigcnpmeaa

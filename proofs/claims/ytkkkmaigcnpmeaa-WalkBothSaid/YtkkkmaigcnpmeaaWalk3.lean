/- Contracts of package walk: where an address is; a page's entry; a word loaded, stored. -/
import Derived.Test.YtkkkmaigcnpmeaaWalk2
namespace Go.Proofs.Ytkkkmaigcnpmeaa
open Go.RowKit
set_option linter.unusedVariables false
set_option linter.unusedSimpArgs false
set_option maxRecDepth 100000
section
variable (e : Int → Int → Ent) (ok : Int → Int → Bool)
def atE (root va : Int) : Ent := pgE e ok root (va / 32 / 32) (va / 32 % 32)
def atF (root va : Int) (wr : Bool) : Int :=
  if 32768 ≤ va then 1 else if pgF e ok root (va / 32 / 32) (va / 32 % 32) = 0 then (if wr && (atE e ok root va).c then 5 else if wr && !(atE e ok root va).w then 4 else 0) else pgF e ok root (va / 32 / 32) (va / 32 % 32)
def atFr (root va : Int) (wr : Bool) : Int := if atF e ok root va wr = 0 then (atE e ok root va).f else 0
def atPl (root va : Int) (wr : Bool) : Int := if atF e ok root va wr = 0 then va % 32 else 0
end
set_option maxHeartbeats 1600000 in
theorem at_ok {w : World} {m : Option Addr} {e : Int → Int → Ent} {ok : Int → Int → Bool} (h : EntryIs w (.pointer m) e ok) (root va : Int) (wr : Bool) (h0 : 0 ≤ va) (h1 : va < 4294967296) :
    Calls Try.prog 62 #[.pointer m, .int .i64 root, .int .u32 va, .bool wr] w
      fun r w' => r = .returned (.tuple #[.int .i64 (atFr e ok root va wr), .int .i64 (atPl e ok root va wr), .int .u8 (atF e ok root va wr)]) ∧ Keep nob w w' := by
  unfold atFr atPl atF
  by_cases hv : 32768 ≤ va
  · simp only [if_pos hv]
    clear h
    go_enter Try.func62, Try.ntmps62
    go_wp2_with fail
    refine Calls.mono (cut_no va _ hv) ?_
    rintro r w1 ⟨rfl, rfl⟩
    go_wp2_with fail
    refine bodyPost_ret (v := .tuple #[.int .i64 0, .int .i64 0, .int .u8 1]) (by simp [results, Try.results62, go_sem]) rfl ⟨rfl, Keep.refl _ _⟩
  · simp only [if_neg hv]
    have PG := Lib.hid (page_ok h root (va / 32 / 32) (va / 32 % 32))
    unfold atE
    obtain ⟨F, hF⟩ : ∃ F, F = pgF e ok root (va / 32 / 32) (va / 32 % 32) := ⟨_, rfl⟩
    obtain ⟨x, hx⟩ : ∃ x, x = pgE e ok root (va / 32 / 32) (va / 32 % 32) := ⟨_, rfl⟩
    rw [← hF, ← hx] at PG ⊢
    clear hF hx h
    obtain ⟨p, q, c, f⟩ := x
    unfold Ent.val at PG
    by_cases h2 : F = 0
    · subst h2
      simp only [if_true]
      have CY := Lib.hid (fun W => cut_yes va W h0 (by omega))
      cases wr <;> cases c <;> cases q
      all_goals
        simp only [Bool.false_and, Bool.true_and, Bool.not_false, Bool.not_true, Bool.false_eq_true, if_true, if_false]
        go_enter Try.func62, Try.ntmps62
        go_wp2_with fail
        refine Calls.mono (CY.out _) ?_
        rintro r w1 ⟨rfl, rfl⟩
        go_wp2_with fail
        refine Calls.mono PG.out ?_
        rintro r w1 ⟨rfl, K⟩
        have A := Lib.hid (K.alloc (.cells #[.bool p, .bool false, .bool false, .int .i64 f] 47))
        go_wp2_with fail
        first
          | (refine bodyPost_ret (v := .tuple #[.int .i64 f, .int .i64 (va % 32), .int .u8 0]) (by simp [results, Try.results62, go_sem]) rfl ⟨rfl, K.alloc _⟩)
          | (refine bodyPost_ret (v := .tuple #[.int .i64 0, .int .i64 0, .int .u8 4]) (by simp [results, Try.results62, go_sem]) rfl ⟨rfl, K.alloc _⟩)
          | (refine bodyPost_ret (v := .tuple #[.int .i64 0, .int .i64 0, .int .u8 5]) (by simp [results, Try.results62, go_sem]) rfl ⟨rfl, K.alloc _⟩)
    · simp only [if_neg h2]
      have t1 : (F != 0) = true := by simpa using h2
      have CY := Lib.hid (fun W => cut_yes va W h0 (by omega))
      clear h2
      go_enter Try.func62, Try.ntmps62
      go_wp2_with fail
      refine Calls.mono (CY.out _) ?_
      rintro r w1 ⟨rfl, rfl⟩
      go_wp2_with fail
      refine Calls.mono PG.out ?_
      rintro r w1 ⟨rfl, K⟩
      go_wp2_with fail
      refine bodyPost_ret (v := .tuple #[.int .i64 0, .int .i64 0, .int .u8 F]) (by simp [results, Try.results62, go_sem]) rfl ⟨rfl, K.alloc _⟩
end Go.Proofs.Ytkkkmaigcnpmeaa
